import Derived.Test.YteaclamkacmhmaaDoorG22
import Derived.OpenShut
import Derived.LaidMore
import Derived.Test.YteaclamkacmhmaaDoorRows
import Derived.KernelRfl
set_option maxRecDepth 100000
set_option linter.unusedSimpArgs false
set_option linter.unusedVariables false

namespace Go.Tx
open Go Go.Am Go.Proofs Go.Seat
open Go.Sq (CE cel ces ida idv pid fX fiO OkRs OkR chkE)
theorem cz3:Tryd.prog.cellsOf 3=1:=by kernel_rfl
theorem cz4:Tryd.prog.cellsOf 4=1:=by kernel_rfl
theorem cz5:Tryd.prog.cellsOf 5=1:=by kernel_rfl
theorem cz9:Tryd.prog.cellsOf 9=1:=by kernel_rfl
theorem czCs:Tryd.prog.cellsOf 22=1:=by kernel_rfl
theorem czMs:Tryd.prog.cellsOf 23=1:=by kernel_rfl
theorem czID:Tryd.prog.cellsOf 45=3:=by kernel_rfl
theorem czD:Tryd.prog.cellsOf 43=2:=by kernel_rfl
theorem czC:Tryd.prog.cellsOf 58=9:=by kernel_rfl
theorem czM:Tryd.prog.cellsOf 47=11:=by kernel_rfl
theorem czT:Tryd.prog.cellsOf 25=2:=by kernel_rfl
noncomputable def cInt:Cod Tryd.prog 3 Int:=Cod.int Tryd.underlying3 cz3
noncomputable def cStr:Cod Tryd.prog 9 ByteArray:=Cod.str Tryd.underlying9 cz9
noncomputable def cBool:Cod Tryd.prog 4 Bool:=Cod.bool Tryd.underlying4 cz4
noncomputable def cDot:Cod Tryd.prog 43 (Int × Int):=Cod.struct Tryd.underlying43 (by kernel_rfl) (FCod.cons cInt rfl (FCod.cons cInt (by kernel_rfl) FCod.nil)) (fun a=>(a.1,a.2.1)) (fun a=>[Am.int a.1,Am.int a.2]) (fun _=>rfl) (fun _=>czD.symm)
noncomputable def cID:Cod Tryd.prog 45 (Int × Int × Int):=Cod.struct Tryd.underlying45 (by kernel_rfl) (FCod.cons cInt rfl (FCod.cons cInt (by kernel_rfl) (FCod.cons cInt (by kernel_rfl) FCod.nil))) (fun a=>(a.1,a.2.1,a.2.2.1)) (fun a=>[Am.int a.1,Am.int a.2.1,Am.int a.2.2]) (fun _=>rfl) (fun _=>czID.symm)
abbrev AC:=(Int × Int × Int) × (Int × Int × Int) × Int × ByteArray × Bool × Unit
noncomputable def cCE:Cod Tryd.prog 58 CE:=Cod.struct Tryd.underlying58 (by kernel_rfl) (FCod.cons cID rfl (FCod.cons cID (by kernel_rfl) (FCod.cons cInt (by kernel_rfl) (FCod.cons cStr (by kernel_rfl) (FCod.cons cBool (by kernel_rfl) FCod.nil)))))
 (fun a:AC=>⟨a.1.1,a.1.2.1,a.1.2.2,a.2.1.1,a.2.1.2.1,a.2.1.2.2,a.2.2.1,a.2.2.2.1,a.2.2.2.2.1⟩) Sq.enc (fun a:AC=>rfl) (fun _=>czC.symm)
noncomputable def cCells:Cod Tryd.prog 22 (List CE):=Cod.slice Tryd.underlying22 czCs (by rw [czC]; decide) cCE
theorem cCells_enc (v:List CE):cCells.enc v=[ces v]:=by
 show [AV.sl (Tryd.prog.cellsOf 58) false (v.map Sq.enc)]=[AV.sl 9 false (v.map Sq.enc)]
 rw [czC]
abbrev AMk:=(Int × Int) × Int × (Int × Int × Int) × (Int × Int × Int) × Int × Bool × Unit
noncomputable def cMK:Cod Tryd.prog 47 MK:=Cod.struct Tryd.underlying47 (by kernel_rfl) (FCod.cons cDot rfl (FCod.cons cInt (by kernel_rfl) (FCod.cons cID (by kernel_rfl) (FCod.cons cID (by kernel_rfl) (FCod.cons cInt (by kernel_rfl) (FCod.cons cBool (by kernel_rfl) FCod.nil))))))
 (fun a:AMk=>⟨a.1.1,a.1.2,a.2.1,a.2.2.1.1,a.2.2.1.2.1,a.2.2.1.2.2,a.2.2.2.1.1,a.2.2.2.1.2.1,a.2.2.2.1.2.2,a.2.2.2.2.1,a.2.2.2.2.2.1⟩) enc (fun a:AMk=>rfl) (fun _=>czM.symm)
noncomputable def cMarks:Cod Tryd.prog 23 (List MK):=Cod.slice Tryd.underlying23 czMs (by rw [czM]; decide) cMK
theorem cMarks_enc (v:List MK):cMarks.enc v=[mks v]:=by
 show [AV.sl (Tryd.prog.cellsOf 47) false (v.map enc)]=[AV.sl 11 false (v.map enc)]
 rw [czM]
abbrev AT:=List CE × List MK × Unit
noncomputable def cTE:Cod Tryd.prog 25 TE:=Cod.struct Tryd.underlying25 (by kernel_rfl) (FCod.cons cCells rfl (FCod.cons cMarks (by kernel_rfl) FCod.nil)) (fun a:AT=>⟨a.1,a.2.1⟩) (fun t=>[ces t.cells,mks t.marks]) (fun a:AT=>by
 show [ces a.1,mks a.2.1]=cCells.enc a.1++(cMarks.enc a.2.1++[])
 rw [cCells_enc,cMarks_enc]; rfl) (fun _=>czT.symm)
theorem cDot_ok {i:Int × Int} (h:cDot.good i):InR i.1∧InR i.2:=by
 obtain ⟨⟨_,_,_⟩,rfl,f1,f2,_⟩:=h
 exact ⟨f1,f2⟩
theorem cID_ok {i:Int × Int × Int} (h:cID.good i):InR i.1∧InR i.2.1∧InR i.2.2:=by
 obtain ⟨⟨_,_,_,_⟩,rfl,f1,f2,f3,_⟩:=h
 exact ⟨f1,f2,f3⟩
def SzC (l:List CE):Prop:=∀ x∈l,x.vl.size≤9223372036854775807
theorem cCE_ok {c:CE} (h:cCE.good c):OkR c∧c.vl.size≤9223372036854775807∧InR c.tm:=by
 obtain ⟨⟨_,_,_,_,_,_⟩,rfl,f1,f2,f3,f4,_⟩:=h
 exact ⟨⟨cID_ok f1,cID_ok f2⟩,f4,f3⟩
theorem cMK_ok {m:MK} (h:cMK.good m):OkM m:=by
 obtain ⟨⟨_,_,_,_,_,_,_⟩,rfl,f1,f2,f3,f4,f5,_⟩:=h
 have h1:=cDot_ok f1
 have h3:=cID_ok f3
 have h4:=cID_ok f4
 exact ⟨h1.1,h1.2,f2,h3.1,h3.2.1,h3.2.2,h4.1,h4.2.1,h4.2.2,f5⟩
theorem cTE_ok {t:TE} (h:cTE.good t):OkT t∧SzC t.cells∧∀ x∈t.cells,InR x.tm:=by
 obtain ⟨⟨_,_,_⟩,rfl,f1,f2,_⟩:=h
 exact ⟨⟨fun x hx=>(cCE_ok (f1.2 x hx)).1,fun x hx=>cMK_ok (f2.2 x hx)⟩,fun x hx=>(cCE_ok (f1.2 x hx)).2.1,fun x hx=>(cCE_ok (f1.2 x hx)).2.2⟩
section
variable {H:Type} {en:TypeId × Value→H} {W:World} {base:Nat} {v:Value} {d:DataW H} {ps:List MemPlace}
theorem reads_agg {α:Type} {t:TypeId} {fs:Array Field} (c:Cod Tryd.prog t α) (hu:Tryd.prog.underlying t=some (.struct fs)) (hv:Value.okWide Tryd.prog W .any base t v) (h:DataW.Trod en Tryd.prog W 0 (fun _=>true) true t v d ps):∃ a,c.good a∧Rep (view0 W) (.agg (c.enc a)) v:=by
 have hagg:∃ cs,v = .agg cs:=by
  unfold Value.okWide at hv
  rw [hu] at hv
  exact ⟨_,hv.choose_spec.1⟩
 obtain ⟨⟨cs⟩,rfl⟩:=hagg
 obtain ⟨n,hn⟩:=h
 have hn':DataW.trod en Tryd.prog W 0 (fun _=>true) true n t cs=some (d,ps):=hn
 obtain ⟨o,g,hl,hp⟩:=c.rd hn'
 exact ⟨o,g,.agg _ _ hl fun j hj=>.pure _ _ (hp j (by rw [hl]; exact hj)).1⟩
theorem reads_text (hv:Value.okWide Tryd.prog W .any base 25 v) (h:DataW.Trod en Tryd.prog W 0 (fun _=>true) true 25 v d ps):∃ t:TE,(OkT t∧SzC t.cells∧∀ x∈t.cells,InR x.tm)∧Rep (view0 W) (txt t) v:=by
 obtain ⟨a,h1,h2⟩:=reads_agg cTE Tryd.underlying25 hv h
 exact ⟨a,cTE_ok h1,h2⟩
theorem reads_mark (hv:Value.okWide Tryd.prog W .any base 47 v) (h:DataW.Trod en Tryd.prog W 0 (fun _=>true) true 47 v d ps):∃ m:MK,OkM m∧Rep (view0 W) (mke m) v:=by
 obtain ⟨a,h1,h2⟩:=reads_agg cMK Tryd.underlying47 hv h
 exact ⟨a,cMK_ok h1,h2⟩
end
theorem gT:Tryd.prog.globalNamed "math/bits.deBruijn32tab" = some 0:=by kernel_rfl
theorem tT:(Tryd.prog.globals[0]?).map (·.type)=some 124:=by kernel_rfl
theorem globs {W:World} (h:laidMetH Tryd.prog [("math/bits.deBruijn32tab",Go.Proofs.YteaclamkacmhmaaDoor.Rows.laid_math_bits_deBruijn32tab)] W):∀ g cs,G g=some cs→PRep W (fun _=>False) (.imm cs) (.pointer (some ⟨g,0,none⟩)):=by
 have h:laidMet Tryd.prog [("math/bits.deBruijn32tab",Go.Proofs.YteaclamkacmhmaaDoor.Rows.laid_math_bits_deBruijn32tab)] W:=h
 obtain ⟨_,⟨g',t,cs,fuel,p,q,hg,ht,hv,hd,_,_⟩,_⟩:=h
 obtain rfl:=Option.some.inj (gT.symm.trans hg)
 obtain rfl:=Option.some.inj (tT.symm.trans ht)
 obtain ⟨xs,m,_,hx,hl,hxl,hf⟩:=DataW.trod_array Tryd.underlying124 hd
 have hx1:xs.map (·.1)=tabB.map fun n=>DataW.lit (.int .u8 n):=by
  have:=(Prod.mk.inj hx).1
  exact (DataW.agg.inj this).symm
 have hlen:cs.toList.length=32:=hl.trans (by kernel_rfl)
 have cell:∀ j (hj:j<32),W.cell? ⟨0,j,none⟩=some (.int .u8 (tabB.getD j 0)):=fun j hj=>by
  have h1:=hf j hj
  have hjx:j<xs.length:=by omega
  rw [cz5,Nat.mul_one,List.getElem?_eq_getElem hjx] at h1
  obtain ⟨n,e1,e2,_⟩:=DataW.trod_int Tryd.underlying5 h1
  have hj2:j<cs.toList.length:=by omega
  rw [List.take_one,List.head?_drop,List.getElem?_eq_getElem hj2] at e1
  have e1:cs.toList[j] = .int .u8 n:=by simpa using e1
  have e3:(xs.map (·.1))[j]? = some (.lit (.int .u8 n)):=by rw [List.getElem?_map,List.getElem?_eq_getElem hjx,e2]; rfl
  rw [hx1,List.getElem?_map] at e3
  have hjt:j<tabB.length:=hj
  rw [List.getElem?_eq_getElem hjt] at e3
  have e4:tabB[j]=n:=by simpa using e3
  have:=World.var?_cell gT hv j
  rw [this,List.getD_eq_getElem?_getD,List.getElem?_eq_getElem hjt]
  have h5:cs[j]? = some cs.toList[j]:=by rw [← Array.getElem?_toList,List.getElem?_eq_getElem hj2]
  rw [h5,e1,← e4]
  rfl
 intro g cs' hg'
 unfold G at hg'
 split at hg'
 · rename_i e
   subst e
   cases hg'
   exact .imm _ _ (fun j=>.int .u8 (tabB.getD j 0)) rfl (fun _ h=>h) (fun j hj=>by rw [Nat.zero_add]; exact cell j (by simpa [tab,tabB] using hj)) (fun j hj=>by
    have hj:j<32:=by simpa [tab,tabB] using hj
    have:tab.getD j .dead = .lit (.int .u8 (tabB.getD j 0)):=by
     unfold tab
     rw [List.getD_eq_getElem?_getD,List.getElem?_map,List.getD_eq_getElem?_getD,List.getElem?_eq_getElem (show j<tabB.length from hj)]
     rfl
    rw [this]
    exact .lit _)
 · cases hg'
theorem door_met (os:Os) (args:Array Value):laidMetH Tryd.prog [("math/bits.deBruijn32tab",Go.Proofs.YteaclamkacmhmaaDoor.Rows.laid_math_bits_deBruijn32tab)] ((World.doorLaid Tryd.prog 600 os).forCall (fun _ _=>0) ⟨#[],args,[]⟩).memory :=
 laidMetH_of_parts3 (fuel:=8) (laidMet_of_run' 8 (by kernel_rfl) (by kernel_rfl)) (by kernel_rfl) (by kernel_rfl)
end Go.Tx


namespace Go.Tx
open Go Go.Am Go.Proofs Go.Seat
open Go.Sq (CE cel ces ida idv pid fX fiO OkRs OkR chkE)
def mkH (t:TE) (m:MK):List AObj:=[sbT t,.box (enc m)]
def mkS (t:TE) (m:MK) (k:Nat):St:={ env:=slots 115 [(2,.ptr 0 0),(3,.ptr 1 0),(4,bool false),(5,int k)],H:=mkH t m }
def mkX (t:TE) (m:MK):St:={ env:=slots 115 [(2,.ptr 0 0),(3,.ptr 1 0)],H:=mkH t m }
def mkR (t:TE) (m:MK):St:={ env:=slots 115 [(4,bool true)],H:=mkH t m }
theorem mkl_t (t:TE) (m a:MK) (k:Nat) (hx:t.marks[k]? = some a) (hle:a.tm≥m.tm) (hk:(k:Int)<(t.marks.length:Int)) (h:True):RunL P G none 0 (loopAt P 8 0) (mkS t m k) AEx.ret (mkR t m):=by
 have _:=h
 exact loop_exit [kv 23 (show Am.Sub (int (↑(List.length (encs (TE.marks t))):Int)) (int (↑(List.length (TE.marks t)):Int)) from (Sub.of_eq (by simp only [Go.Tx.encs_length]))),kt (show decide ((↑k:Int)<(↑(List.length (TE.marks t)):Int))=true from (decide_eq_true (by omega))),ko (Orc.elem (enc a)),kp (show (0:Int)≤(↑k:Int)∧(encs (TE.marks t))[Int.toNat (↑k:Int)]? = some (enc a) from (el_nat hx)),kt (show decide (MK.tm a≥MK.tm m)=true from (decide_eq_true (by omega)))] (others 115 [4]) 2 (by kernel_rfl)
theorem mkl_n (t:TE) (m a:MK) (k:Nat) (hl:t.marks.length≤12) (hx:t.marks[k]? = some a) (hle:¬ a.tm≥m.tm) (hk:(k:Int)<(t.marks.length:Int)) (ex:AEx) (s':St) (h:RunL P G none 0 (loopAt P 8 0) (St.mk (slots 115 [(2,AV.ptr 0 0),(3,AV.ptr 1 0),(4,Am.bool false),(5,int (↑(k+1):Int))]) [AObj.box [AV.sl 9 false (Sq.encs (TE.cells t)),AV.sl 11 false (encs (TE.marks t))],AObj.box [int (MK.dv m),int (MK.sq m),int (MK.tm m),int (MK.fd m),int (MK.fs m),int (MK.fa m),int (MK.td m),int (MK.ts m),int (MK.ta m),int (MK.st m),Am.bool (MK.on m)]] []) ex s'):RunL P G none 0 (loopAt P 8 0) (mkS t m k) ex s':=by
 exact loop_next [kv 23 (show Am.Sub (int (↑(List.length (encs (TE.marks t))):Int)) (int (↑(List.length (TE.marks t)):Int)) from (Sub.of_eq (by simp only [Go.Tx.encs_length]))),kt (show decide ((↑k:Int)<(↑(List.length (TE.marks t)):Int))=true from (decide_eq_true (by omega))),ko (Orc.elem (enc a)),kp (show (0:Int)≤(↑k:Int)∧(encs (TE.marks t))[Int.toNat (↑k:Int)]? = some (enc a) from (el_nat hx)),kf (show decide (MK.tm a≥MK.tm m)=false from (decide_eq_false (by omega))),kv 26 (show Am.Sub (int (IntKind.wrap IntKind.i64 ((↑k:Int)+1))) (int (↑(k+1):Int)) from (Sub.of_wrap (by omega) (by omega) (by omega)))] (others 115 [2,3,4,5]) 2 h (by kernel_rfl)
theorem mkl_e (t:TE) (m:MK) (k:Nat) (hk:¬ (k:Int)<(t.marks.length:Int)) (h:True):RunL P G none 0 (loopAt P 8 0) (mkS t m k) (AEx.exit 0) (mkX t m):=by
 have _:=h
 exact loop_exit [kv 23 (show Am.Sub (int (↑(List.length (encs (TE.marks t))):Int)) (int (↑(List.length (TE.marks t)):Int)) from (Sub.of_eq (by simp only [Go.Tx.encs_length]))),kf (show decide ((↑k:Int)<(↑(List.length (TE.marks t)):Int))=false from (decide_eq_false (by omega)))] (others 115 [2,3]) 2 (by kernel_rfl)
theorem mk_0 (t:TE) (m:MK) (hf:CallC P G 12 [txt t] [] (.ret (bool false)) []) (h:True):CallC P G 8 [txt t,mke m] [] (AOut.ret (Am.bool true)) []:=by
 have _:=h
 exact callC_of [kc [] (@Go.Tx.sane_w (trivial)),kf (Eq.refl false),kc [] (@hf ),kt (Eq.refl true)] (by kernel_rfl)
theorem mk_1 (t:TE) (m:MK) (hf:CallC P G 12 [txt t] [] (.ret (bool true)) []) (hL:RunL P G none 0 (loopAt P 8 0) (mkS t m 0) .ret (mkR t m)) (h:True):CallC P G 8 [txt t,mke m] [] (AOut.ret (Am.bool true)) []:=by
 have _:=h
 exact callC_of [kc [] (@Go.Tx.sane_w (trivial)),kf (Eq.refl false),kc [] (@hf ),kf (Eq.refl false),kl [0,1,6,7,8,9,10,11,12,13,14,15,16,17,18,19,20,21,22,23,24,25,26,27,28,29,30,31,32,33,34,35,36,37,38,39,40,41,42,43,44,45,46,47,48,49,50,51,52,53,54,55,56,57,58,59,60,61,62,63,64,65,66,67,68,69,70,71,72,73,74,75,76,77,78,79,80,81,82,83,84,85,86,87,88,89,90,91,92,93,94,95,96,97,98,99,100,101,102,103,104,105,106,107,108,109,110,111,112,113,114] 2 (@hL )] (by kernel_rfl)
theorem mk_2 (t:TE) (m:MK) (e:Int) (he:e≠0) (hf:CallC P G 12 [txt t] [] (.ret (bool true)) []) (hL:RunL P G none 0 (loopAt P 8 0) (mkS t m 0) (.exit 0) (mkX t m)) (hA:CallC P G 32 [txt t,mke m] [] (.ret (.tup [.agg [ces [],mks []],int e])) []) (h:True):CallC P G 8 [txt t,mke m] [] (AOut.ret (Am.bool true)) []:=by
 have _:=h
 exact callC_of [kc [] (@Go.Tx.sane_w (trivial)),kf (Eq.refl false),kc [] (@hf ),kf (Eq.refl false),kl [0,1,6,7,8,9,10,11,12,13,14,15,16,17,18,19,20,21,22,23,24,25,26,27,28,29,30,31,32,33,34,35,36,37,38,39,40,41,42,43,44,45,46,47,48,49,50,51,52,53,54,55,56,57,58,59,60,61,62,63,64,65,66,67,68,69,70,71,72,73,74,75,76,77,78,79,80,81,82,83,84,85,86,87,88,89,90,91,92,93,94,95,96,97,98,99,100,101,102,103,104,105,106,107,108,109,110,111,112,113,114] 2 (@hL ),kc [] (@hA ),kt (show (e != 0)=true from (congrArg Bool.not (decide_eq_false (by omega))))] (by kernel_rfl)
theorem mk_3 (t:TE) (v:List MK) (m:MK) (s:ByteArray) (hf:CallC P G 12 [txt t] [] (.ret (bool true)) []) (hL:RunL P G none 0 (loopAt P 8 0) (mkS t m 0) (.exit 0) (mkX t m)) (hA:CallC P G 32 [txt t,mke m] [] (.ret (.tup [.agg [ces t.cells,mks v],int 0])) []) (hs:CallC P G 30 [ces t.cells,ces t.cells] [] (.ret (bool true)) []) (h1:CallC P G 19 [.agg [ces t.cells,mks v]] [] (.ret (str s)) []) (h2:CallC P G 19 [txt t] [] (.ret (str s)) []) (hM:RunL P G none 0 (loopAt P 8 1) { env:=slots 115 [(2,.ptr 0 0),(3,.ptr 1 0),(6,.ptr 2 0),(8,int 0)],H:=[sbT t,.box (enc m),.box [ces t.cells,mks v]] } (.exit 2) { env:=slots 115 [(2,.ptr 0 0)],H:=[sbT t,.box (enc m),.box [ces t.cells,mks v]] }) (h:((((ByteArray.toList s == ByteArray.toList s)=true)→True)∧(((ByteArray.toList s == ByteArray.toList s)=false)→(false)=(true)))):CallC P G 8 [txt t,mke m] [] (AOut.ret (Am.bool true)) []:=by
 have hz0:=(@Go.Tx.sane_w (trivial))
 have hz1:=(@hf )
 have hz2:=(@hL )
 have hz3:=(@hA )
 have hz4:=(@hs )
 have hz5:=(@h1 )
 have hz6:=(@h2 )
 rcases Bool.eq_false_or_eq_true ((ByteArray.toList s == ByteArray.toList s)) with c1 | c1
 · have h:=h.1 c1
   have _:=h
   exact callC_of [kc [] hz0,kf (Eq.refl false),kc [] hz1,kf (Eq.refl false),kl [0,1,6,7,8,9,10,11,12,13,14,15,16,17,18,19,20,21,22,23,24,25,26,27,28,29,30,31,32,33,34,35,36,37,38,39,40,41,42,43,44,45,46,47,48,49,50,51,52,53,54,55,56,57,58,59,60,61,62,63,64,65,66,67,68,69,70,71,72,73,74,75,76,77,78,79,80,81,82,83,84,85,86,87,88,89,90,91,92,93,94,95,96,97,98,99,100,101,102,103,104,105,106,107,108,109,110,111,112,113,114] 2 hz2,kc [] hz3,kf (Eq.refl false),kc [] hz4,kf (Eq.refl false),kc [] hz5,kc [] hz6,kf (show (!ByteArray.toList s == ByteArray.toList s)=false from (congrArg Bool.not (c1))),kl [7,36,37,38,39,40,41,42,43,52,53,54,55,56,57,58,59,60,61,62,63,64] 3 (@hM )] (by kernel_rfl)
 · have h:=h.2 c1
   have e1:=h
   exact callC_out (Sub.bool_eq e1) [kc [] hz0,kf (Eq.refl false),kc [] hz1,kf (Eq.refl false),kl [0,1,6,7,8,9,10,11,12,13,14,15,16,17,18,19,20,21,22,23,24,25,26,27,28,29,30,31,32,33,34,35,36,37,38,39,40,41,42,43,44,45,46,47,48,49,50,51,52,53,54,55,56,57,58,59,60,61,62,63,64,65,66,67,68,69,70,71,72,73,74,75,76,77,78,79,80,81,82,83,84,85,86,87,88,89,90,91,92,93,94,95,96,97,98,99,100,101,102,103,104,105,106,107,108,109,110,111,112,113,114] 2 hz2,kc [] hz3,kf (Eq.refl false),kc [] hz4,kf (Eq.refl false),kc [] hz5,kc [] hz6,kt (show (!ByteArray.toList s == ByteArray.toList s)=true from (congrArg Bool.not (c1)))] (by kernel_rfl)
def moH (t:TE) (v:List MK) (m:MK):List AObj:=[sbT t,.box (enc m),.box [ces t.cells,mks v]]
def moS (t:TE) (v:List MK) (m:MK) (k:Nat):St:={ env:=slots 115 [(2,.ptr 0 0),(3,.ptr 1 0),(6,.ptr 2 0),(8,int k)],H:=moH t v m }
def moX (t:TE) (v:List MK) (m:MK):St:={ env:=slots 115 [(2,.ptr 0 0)],H:=moH t v m }
theorem mko_e (t:TE) (v:List MK) (m:MK) (k:Nat) (hk:¬ (k:Int)<(t.cells.length:Int)) (h:True):RunL P G none 0 (loopAt P 8 1) (moS t v m k) (AEx.exit 2) (moX t v m):=by
 have _:=h
 exact loop_exit [kv 68 (show Am.Sub (int (↑(List.length (Sq.encs (TE.cells t))):Int)) (int (↑(List.length (TE.cells t)):Int)) from (Sub.of_eq (by simp only [Go.Sq.encs_length]))),kf (show decide ((↑k:Int)<(↑(List.length (TE.cells t)):Int))=false from (decide_eq_false (by omega)))] (others 115 [2]) 3 (by kernel_rfl)
def miS (t:TE) (v:List MK) (m:MK) (k:Nat) (la lb:List Int) (j:Nat):St:={ env:=slots 115 [(2,.ptr 0 0),(3,.ptr 1 0),(6,.ptr 2 0),(8,int k),(9,ils la),(11,ils lb),(13,int j)],H:=moH t v m }
def miX (t:TE) (v:List MK) (m:MK) (k:Nat):St:={ env:=slots 115 [(2,.ptr 0 0),(3,.ptr 1 0),(6,.ptr 2 0),(8,int k)],H:=moH t v m }
theorem mki_e (t:TE) (v:List MK) (m:MK) (k:Nat) (la lb:List Int) (j:Nat) (hj:16≤j) (h:True):RunL P G none 0 (loopAt P 8 2) (miS t v m k la lb j) (AEx.exit 4) (miX t v m k):=by
 have _:=h
 exact loop_exit [kf (show decide ((↑j:Int)<(16:Int))=false from (decide_eq_false (by omega)))] (others 115 [2,3,6,8]) 3 (by kernel_rfl)
theorem mki_n (t:TE) (v:List MK) (m:MK) (k:Nat) (la lb:List Int) (j:Nat) (wa wb cc:Bool) (hj:j<16) (h1:CallC P G 33 [ils la,int j] [] (.ret (bool wa)) []) (h2:CallC P G 33 [ils lb,int j] [] (.ret (bool wb)) []) (h3:CallC P G 34 [ces t.cells,mke m,int k] [] (.ret (bool cc)) []) (ex:AEx) (s':St) (h:((((↑j:Int)=MK.st m)→((((cc)=true)→((((wb == MK.on m)=true)→RunL P G none 0 (loopAt P 8 2) (St.mk (slots 115 [(2,AV.ptr 0 0),(3,AV.ptr 1 0),(6,AV.ptr 2 0),(8,int (↑k:Int)),(9,AV.sl 1 false (Vec.ints la)),(11,AV.sl 1 false (Vec.ints lb)),(13,int (↑(j+1):Int))]) [AObj.box [AV.sl 9 false (Sq.encs (TE.cells t)),AV.sl 11 false (encs (TE.marks t))],AObj.box [int (MK.dv m),int (MK.sq m),int (MK.tm m),int (MK.fd m),int (MK.fs m),int (MK.fa m),int (MK.td m),int (MK.ts m),int (MK.ta m),int (MK.st m),Am.bool (MK.on m)],AObj.box [AV.sl 9 false (Sq.encs (TE.cells t)),AV.sl 11 false (encs v)]] []) ex s')∧(((wb == MK.on m)=false)→(AEx.ret=ex)∧(St.mk (slots 115 []) [AObj.box [AV.sl 9 false (Sq.encs (TE.cells t)),AV.sl 11 false (encs (TE.marks t))],AObj.box [int (MK.dv m),int (MK.sq m),int (MK.tm m),int (MK.fd m),int (MK.fs m),int (MK.fa m),int (MK.td m),int (MK.ts m),int (MK.ta m),int (MK.st m),Am.bool (MK.on m)],AObj.box [AV.sl 9 false (Sq.encs (TE.cells t)),AV.sl 11 false (encs v)]] []=s'))))∧(((cc)=false)→((((wb == wa)=true)→RunL P G none 0 (loopAt P 8 2) (St.mk (slots 115 [(2,AV.ptr 0 0),(3,AV.ptr 1 0),(6,AV.ptr 2 0),(8,int (↑k:Int)),(9,AV.sl 1 false (Vec.ints la)),(11,AV.sl 1 false (Vec.ints lb)),(13,int (↑(j+1):Int))]) [AObj.box [AV.sl 9 false (Sq.encs (TE.cells t)),AV.sl 11 false (encs (TE.marks t))],AObj.box [int (MK.dv m),int (MK.sq m),int (MK.tm m),int (MK.fd m),int (MK.fs m),int (MK.fa m),int (MK.td m),int (MK.ts m),int (MK.ta m),int (MK.st m),Am.bool (MK.on m)],AObj.box [AV.sl 9 false (Sq.encs (TE.cells t)),AV.sl 11 false (encs v)]] []) ex s')∧(((wb == wa)=false)→(AEx.ret=ex)∧(St.mk (slots 115 []) [AObj.box [AV.sl 9 false (Sq.encs (TE.cells t)),AV.sl 11 false (encs (TE.marks t))],AObj.box [int (MK.dv m),int (MK.sq m),int (MK.tm m),int (MK.fd m),int (MK.fs m),int (MK.fa m),int (MK.td m),int (MK.ts m),int (MK.ta m),int (MK.st m),Am.bool (MK.on m)],AObj.box [AV.sl 9 false (Sq.encs (TE.cells t)),AV.sl 11 false (encs v)]] []=s'))))))∧((¬(↑j:Int)=MK.st m)→((((wb == wa)=true)→RunL P G none 0 (loopAt P 8 2) (St.mk (slots 115 [(2,AV.ptr 0 0),(3,AV.ptr 1 0),(6,AV.ptr 2 0),(8,int (↑k:Int)),(9,AV.sl 1 false (Vec.ints la)),(11,AV.sl 1 false (Vec.ints lb)),(13,int (↑(j+1):Int))]) [AObj.box [AV.sl 9 false (Sq.encs (TE.cells t)),AV.sl 11 false (encs (TE.marks t))],AObj.box [int (MK.dv m),int (MK.sq m),int (MK.tm m),int (MK.fd m),int (MK.fs m),int (MK.fa m),int (MK.td m),int (MK.ts m),int (MK.ta m),int (MK.st m),Am.bool (MK.on m)],AObj.box [AV.sl 9 false (Sq.encs (TE.cells t)),AV.sl 11 false (encs v)]] []) ex s')∧(((wb == wa)=false)→(AEx.ret=ex)∧(St.mk (slots 115 []) [AObj.box [AV.sl 9 false (Sq.encs (TE.cells t)),AV.sl 11 false (encs (TE.marks t))],AObj.box [int (MK.dv m),int (MK.sq m),int (MK.tm m),int (MK.fd m),int (MK.fs m),int (MK.fa m),int (MK.td m),int (MK.ts m),int (MK.ta m),int (MK.st m),Am.bool (MK.on m)],AObj.box [AV.sl 9 false (Sq.encs (TE.cells t)),AV.sl 11 false (encs v)]] []=s')))))):RunL P G none 0 (loopAt P 8 2) (miS t v m k la lb j) ex s':=by
 have hz0:decide ((↑j:Int)<(16:Int))=true:=(decide_eq_true (by omega))
 have hz1:=(@h1 )
 have hz2:=(@h3 )
 have hz3:=(@h2 )
 by_cases c2:((↑j:Int)=MK.st m)
 · have h:=h.1 c2
   rcases Bool.eq_false_or_eq_true ((cc)) with c3 | c3
   · have h:=h.1 c3
     rcases Bool.eq_false_or_eq_true ((wb == MK.on m)) with c4 | c4
     · have h:=h.1 c4
       exact loop_next [kt hz0,kc [] hz1,kt (beq_iff_eq.2 c2),kc [] hz2,kt c3,kc [] hz3,kf (show (!wb == MK.on m)=false from (congrArg Bool.not (c4))),kv 93 (show Am.Sub (int (IntKind.wrap IntKind.i64 ((↑j:Int)+1))) (int (↑(j+1):Int)) from (Sub.of_wrap (by omega) (by omega) (by omega)))] (others 115 [2,3,6,8,9,11,13]) 3 h (by kernel_rfl)
     · have h:=h.2 c4
       obtain ⟨eX,eS⟩:=h
       exact RunL.to ((show RunL P G none 0 (loopAt P 8 2) (miS t v m k la lb j) AEx.ret (St.mk (slots 115 []) [AObj.box [AV.sl 9 false (Sq.encs (TE.cells t)),AV.sl 11 false (encs (TE.marks t))],AObj.box [int (MK.dv m),int (MK.sq m),int (MK.tm m),int (MK.fd m),int (MK.fs m),int (MK.fa m),int (MK.td m),int (MK.ts m),int (MK.ta m),int (MK.st m),Am.bool (MK.on m)],AObj.box [AV.sl 9 false (Sq.encs (TE.cells t)),AV.sl 11 false (encs v)]] []) from loop_exit [kt hz0,kc [] hz1,kt (beq_iff_eq.2 c2),kc [] hz2,kt c3,kc [] hz3,kt (show (!wb == MK.on m)=true from (congrArg Bool.not (c4)))] (others 115 []) 3 (by kernel_rfl))) eX (SubS.of_eq eS)
   · have h:=h.2 c3
     rcases Bool.eq_false_or_eq_true ((wb == wa)) with c5 | c5
     · have h:=h.1 c5
       exact loop_next [kt hz0,kc [] hz1,kt (beq_iff_eq.2 c2),kc [] hz2,kf c3,kc [] hz3,kf (show (!wb == wa)=false from (congrArg Bool.not (c5))),kv 93 (show Am.Sub (int (IntKind.wrap IntKind.i64 ((↑j:Int)+1))) (int (↑(j+1):Int)) from (Sub.of_wrap (by omega) (by omega) (by omega)))] (others 115 [2,3,6,8,9,11,13]) 3 h (by kernel_rfl)
     · have h:=h.2 c5
       obtain ⟨eX,eS⟩:=h
       exact RunL.to ((show RunL P G none 0 (loopAt P 8 2) (miS t v m k la lb j) AEx.ret (St.mk (slots 115 []) [AObj.box [AV.sl 9 false (Sq.encs (TE.cells t)),AV.sl 11 false (encs (TE.marks t))],AObj.box [int (MK.dv m),int (MK.sq m),int (MK.tm m),int (MK.fd m),int (MK.fs m),int (MK.fa m),int (MK.td m),int (MK.ts m),int (MK.ta m),int (MK.st m),Am.bool (MK.on m)],AObj.box [AV.sl 9 false (Sq.encs (TE.cells t)),AV.sl 11 false (encs v)]] []) from loop_exit [kt hz0,kc [] hz1,kt (beq_iff_eq.2 c2),kc [] hz2,kf c3,kc [] hz3,kt (show (!wb == wa)=true from (congrArg Bool.not (c5)))] (others 115 []) 3 (by kernel_rfl))) eX (SubS.of_eq eS)
 · have h:=h.2 c2
   rcases Bool.eq_false_or_eq_true ((wb == wa)) with c6 | c6
   · have h:=h.1 c6
     exact loop_next [kt hz0,kc [] hz1,kf (beq_eq_false_iff_ne.2 c2),kf (Eq.refl false),kc [] hz3,kf (show (!wb == wa)=false from (congrArg Bool.not (c6))),kv 93 (show Am.Sub (int (IntKind.wrap IntKind.i64 ((↑j:Int)+1))) (int (↑(j+1):Int)) from (Sub.of_wrap (by omega) (by omega) (by omega)))] (others 115 [2,3,6,8,9,11,13]) 3 h (by kernel_rfl)
   · have h:=h.2 c6
     obtain ⟨eX,eS⟩:=h
     exact RunL.to ((show RunL P G none 0 (loopAt P 8 2) (miS t v m k la lb j) AEx.ret (St.mk (slots 115 []) [AObj.box [AV.sl 9 false (Sq.encs (TE.cells t)),AV.sl 11 false (encs (TE.marks t))],AObj.box [int (MK.dv m),int (MK.sq m),int (MK.tm m),int (MK.fd m),int (MK.fs m),int (MK.fa m),int (MK.td m),int (MK.ts m),int (MK.ta m),int (MK.st m),Am.bool (MK.on m)],AObj.box [AV.sl 9 false (Sq.encs (TE.cells t)),AV.sl 11 false (encs v)]] []) from loop_exit [kt hz0,kc [] hz1,kf (beq_eq_false_iff_ne.2 c2),kf (Eq.refl false),kc [] hz3,kt (show (!wb == wa)=true from (congrArg Bool.not (c6)))] (others 115 []) 3 (by kernel_rfl))) eX (SubS.of_eq eS)
theorem mko_n (t:TE) (v:List MK) (m:MK) (k:Nat) (la lb:List Int) (hl:t.cells.length≤40) (hk:(k:Int)<(t.cells.length:Int)) (h1:CallC P G 13 [txt t,int k] [] (.ret (.tup [ils la,int 0])) []) (h2:CallC P G 13 [.agg [ces t.cells,mks v],int k] [] (.ret (.tup [ils lb,int 0])) []) (hI:RunL P G none 0 (loopAt P 8 2) (miS t v m k la lb 0) (.exit 4) (miX t v m k)) (ex:AEx) (s':St) (h:RunL P G none 0 (loopAt P 8 1) (St.mk (slots 115 [(2,AV.ptr 0 0),(3,AV.ptr 1 0),(6,AV.ptr 2 0),(8,int (↑(k+1):Int))]) [AObj.box [AV.sl 9 false (Sq.encs (TE.cells t)),AV.sl 11 false (encs (TE.marks t))],AObj.box [int (MK.dv m),int (MK.sq m),int (MK.tm m),int (MK.fd m),int (MK.fs m),int (MK.fa m),int (MK.td m),int (MK.ts m),int (MK.ta m),int (MK.st m),Am.bool (MK.on m)],AObj.box [AV.sl 9 false (Sq.encs (TE.cells t)),AV.sl 11 false (encs v)]] []) ex s'):RunL P G none 0 (loopAt P 8 1) (moS t v m k) ex s':=by
 exact loop_next [kv 68 (show Am.Sub (int (↑(List.length (Sq.encs (TE.cells t))):Int)) (int (↑(List.length (TE.cells t)):Int)) from (Sub.of_eq (by simp only [Go.Sq.encs_length]))),kt (show decide ((↑k:Int)<(↑(List.length (TE.cells t)):Int))=true from (decide_eq_true (by omega))),kc [] (@h1 ),kc [] (@h2 ),kf (Eq.refl false),kf (Eq.refl false),kl [10,12,65,66,67,68,69,72,73,74,75,76,77,78,79,80,81,82,83,84,85,86,87,88,89] 3 (@hI ),kv 71 (show Am.Sub (int (IntKind.wrap IntKind.i64 ((↑k:Int)+1))) (int (↑(k+1):Int)) from (Sub.of_wrap (by omega) (by omega) (by omega)))] (others 115 [2,3,6,8]) 3 h (by kernel_rfl)
end Go.Tx


namespace Go.Tx
open Go Go.Am Go.Proofs Go.Seat
open Go.Sq (CE cel ces ida idv pid fX fiO OkRs OkR chkE insE insV formsB Ok Ids lvl all clash More ers goneAt)
def tyL (dv sq tm:Int) (s:ByteArray):Nat→Nat→Sq.ID→List CE
 | 0,_,_=>[]
 | n+1,k,i=>tyC dv sq tm k i s::tyL dv sq tm s n (k+1) (dv,sq,(k:Int))
theorem ins_iff {l:List CE} {c:CE} (hg:c.gn=false):insE l c=0↔chkE l=0∧formsB (l++[c])=true:=by
 rcases Sq.ins_cases l c with ⟨h1,h2,h3,_⟩ | ⟨h1,_⟩
 · exact ⟨fun _=>⟨h2,h3⟩,fun _=>h1⟩
 · refine ⟨fun h=>absurd h h1,fun ⟨h2,h3⟩=>?_⟩
   unfold Sq.insE Sq.ordE
   simp [h2,hg,h3]
theorem ins_all {l:List CE} {c:CE} (h:insE l c=0):insV l c=all (l++[c]):=by
 rcases Sq.ins_cases l c with ⟨_,_,_,h4⟩ | ⟨h1,_⟩
 · exact h4
 · exact absurd h h1
theorem lvl_up {l m:List CE} (h:∀ x∈l,x∈m):∀ {n:Nat} {c:CE},lvl l n c→lvl m n c
 | 0,_,k=>k
 | n+1,_,⟨p,hp,e,k⟩=>⟨p,h p hp,e,lvl_up h k⟩
theorem forms_up {l l':List CE} {c:CE} (h:More l c) (h':formsB l'=true) (hs:∀ x∈l,x∈l') (hc:∀ y∈l',y∉l→clash c y=false):formsB (l'++[c])=true:=by
 obtain ⟨o1,o2⟩:=Sq.forms_iff.1 h'
 have hm:=h.okm
 have cl:∀ y∈l',clash c y=false:=fun y hy=>by
  by_cases hyl:y∈l
  · exact (List.pairwise_append.1 hm.apart).2.2 y hyl c (by simp)
  · exact hc y hy hyl
 refine Sq.forms_iff.2 ⟨⟨fun x hx=>?_,?_⟩,fun x hx=>?_⟩
 · rcases List.mem_append.1 hx with hx | hx
   · exact o1.valid x hx
   · exact hm.valid x (List.mem_append_right _ hx)
 · refine List.pairwise_append.2 ⟨o1.apart,List.pairwise_singleton _ _,fun a ha b hb=>?_⟩
   rw [List.mem_singleton.1 hb]
   exact cl a ha
 · rcases List.mem_append.1 hx with hx | hx
   · obtain ⟨n,hn⟩:=o2 x hx
     exact ⟨n,lvl_up (fun y hy=>List.mem_append_left _ hy) hn⟩
   · rw [List.mem_singleton.1 hx]
     rcases h.parent with e | ⟨p,hp,e⟩
     · exact ⟨0,e⟩
     · obtain ⟨n,hn⟩:=o2 p (hs p hp)
       exact ⟨n+1,p,List.mem_append_left _ (hs p hp),e,lvl_up (fun y hy=>List.mem_append_left _ hy) hn⟩
theorem ty_up {dv sq tm:Int} {s:ByteArray}:∀ {n k:Nat} {i:Sq.ID} {l l':List CE},chkE l=0→(tyN dv sq tm s n k i l).2=0→chkE l'=0→(∀ x∈l,x∈l')→(∀ c∈tyL dv sq tm s n k i,∀ y∈l',y∉l→clash c y=false) →
 tyN dv sq tm s n k i l'=(all (l'++tyL dv sq tm s n k i),0)∧formsB (l'++tyL dv sq tm s n k i)=true
 | 0,k,i,l,l',_,_,h',_,_=>by
  obtain ⟨f1,f2⟩:=Sq.chk_iff.1 h'
  refine ⟨?_,by simpa [tyL] using f1⟩
  simp [tyN,tyL,f2]
 | n+1,k,i,l,l',h,ht,h',hs,hc=>by
  rw [tyN] at ht
  split at ht
  · rename_i hne
    exact absurd ht hne
  · rename_i h0
    have h0:insE l (tyC dv sq tm k i s)=0:=by simpa using h0
    obtain ⟨_,f1⟩:=(ins_iff (c:=tyC dv sq tm k i s) rfl).1 h0
    have hM:More l (tyC dv sq tm k i s):=⟨(Sq.chk_iff.1 h).1,f1⟩
    have f2:=forms_up hM (Sq.chk_iff.1 h').1 hs (hc _ (List.mem_cons_self ..))
    have h1:=(ins_iff (l:=l') (c:=tyC dv sq tm k i s) rfl).2 ⟨h',f2⟩
    rw [ins_all h0] at ht
    have mem1:∀ {x},x∈all (l++[tyC dv sq tm k i s])↔x∈l∨x=tyC dv sq tm k i s:=fun {x}=>by rw [(Sq.all_is f1).mem_iff]; simp
    have mem2:∀ {x},x∈all (l'++[tyC dv sq tm k i s])↔x∈l'∨x=tyC dv sq tm k i s:=fun {x}=>by rw [(Sq.all_is f2).mem_iff]; simp
    obtain ⟨a1,a2⟩:=ty_up (l':=all (l'++[tyC dv sq tm k i s])) (Sq.ord_ord f1).2.2 ht (Sq.ord_ord f2).2.2 (fun x hx=>mem2.2 ((mem1.1 hx).imp (hs x) id)) (fun c hcm y hy hn=>by
     rcases mem2.1 hy with hy | hy
     · exact hc c (List.mem_cons_of_mem _ hcm) y hy fun hyl=>hn (mem1.2 (.inl hyl))
     · exact absurd (mem1.2 (.inr hy)) hn)
    have hp:(all (l'++[tyC dv sq tm k i s])++tyL dv sq tm s n (k+1) (dv,sq,(k:Int))).Perm (l'++tyL dv sq tm s (n+1) k i):=by
     have:=(Sq.all_is f2).append_right (tyL dv sq tm s n (k+1) (dv,sq,(k:Int)))
     rw [List.append_assoc] at this
     exact this
    have f3:formsB (l'++tyL dv sq tm s (n+1) k i)=true:=by rw [← Sq.forms_perm hp]; exact a2
    refine ⟨?_,f3⟩
    rw [tyN,if_neg (by simpa using h1),ins_all h1,a1,Sq.all_perm (Sq.forms_iff.1 a2).1 hp]
theorem ty_is {dv sq tm:Int} {s:ByteArray} {n k:Nat} {i:Sq.ID} {l:List CE} (h:chkE l=0) (ht:(tyN dv sq tm s n k i l).2=0):tyN dv sq tm s n k i l=(all (l++tyL dv sq tm s n k i),0)∧formsB (l++tyL dv sq tm s n k i)=true :=
 ty_up h ht h (fun _ hx=>hx) fun _ _ _ hy hn=>absurd hy hn
def cutF (a b c:Int):Nat→Nat→CE→CE
 | 0,_,x=>x
 | n+1,k,x=>cutF a b c n (k+1) (ers (a,b,wr c k) x)
theorem cutF_alike {a b c:Int}:∀ {n k:Nat},Sq.Alike (cutF a b c n k)
 | 0,_=>⟨fun _=>rfl,fun _=>rfl,fun _=>rfl,fun _=>rfl,fun _=>rfl,fun _=>rfl,fun _=>rfl,fun _=>rfl⟩
 | n+1,k=>by
  have h:=Sq.ers_alike (a,b,wr c k)
  have k:=cutF_alike (a:=a) (b:=b) (c:=c) (n:=n) (k:=k+1)
  constructor<;>intro x<;>simp only [cutF]
  · rw [k.dv,h.dv]
  · rw [k.sq,h.sq]
  · rw [k.at',h.at']
  · rw [k.ad,h.ad]
  · rw [k.as',h.as']
  · rw [k.aa,h.aa]
  · rw [k.tm,h.tm]
  · rw [k.vl,h.vl]
theorem cutF_gn {a b c:Int}:∀ {n k:Nat} {x:CE},(cutF a b c n k x).gn=true↔x.gn=true∨∃ j,j<n∧x.id=(a,b,wr c (k+j))
 | 0,k,x=>by simp [cutF]
 | n+1,k,x=>by
  rw [cutF,cutF_gn,(Sq.ers_alike _).id]
  have h1:(ers (a,b,wr c k) x).gn=true↔x.gn=true∨x.id=(a,b,wr c k):=by
   by_cases h:x.id=(a,b,wr c k)
   · rw [Sq.ers_yes h]; simp [h]
   · rw [Sq.ers_no h]; simp [h]
  rw [h1]
  constructor
  · rintro ((h | h) | ⟨j,hj,h⟩)
    · exact .inl h
    · exact .inr ⟨0,by omega,h⟩
    · exact .inr ⟨j+1,by omega,by rw [h,show k+1+j=k+(j+1) by omega]⟩
  · rintro (h | ⟨j,hj,h⟩)
    · exact .inl (.inl h)
    · cases j with
      | zero=>exact .inl (.inr h)
      | succ j=>exact .inr ⟨j,by omega,by rw [h,show k+1+j=k+(j+1) by omega]⟩
def CutOk (a b c:Int) (n k:Nat) (l:List CE):Prop:=∀ j,j<n→∃ x∈l,x.id=(a,b,wr c (k+j))
theorem cut_is {a b c:Int}:∀ {n k:Nat} {l:List CE},Ids l→(CutOk a b c n k l→cutN a b c n k l=some (l.map (cutF a b c n k)))∧∀ {r},cutN a b c n k l=some r→CutOk a b c n k l
 | 0,k,l,_=>⟨fun _=>by simp [cutN,cutF],fun _ j hj=>absurd hj (by omega)⟩
 | n+1,k,l,hl=>by
  have ha:=Sq.ers_alike (a,b,wr c k)
  have hl2:Ids (l.map (ers (a,b,wr c k))):=List.pairwise_map.2 (hl.imp fun {x y} q=>by rw [ha.id,ha.id]; exact q)
  obtain ⟨i1,i2⟩:=cut_is (a:=a) (b:=b) (c:=c) (n:=n) (k:=k+1) hl2
  constructor
  · intro h
    obtain ⟨x,hx,e⟩:=h 0 (by omega)
    obtain ⟨m,hm⟩:=Sq.fX_mem hx e
    have hm:fX (pid a b (wr c k)) l=some m:=hm
    rw [cutN,hm]
    show cutN a b c n (k+1) (goneAt l m)=_
    rw [Sq.goneAt_map hl hm,i1 fun j hj=>?_,List.map_map]
    · rfl
    · obtain ⟨y,hy,e⟩:=h (j+1) (by omega)
      exact ⟨_,List.mem_map.2 ⟨y,hy,rfl⟩,by rw [ha.id,e,show k+1+j=k+(j+1) by omega]⟩
  · intro r h j hj
    rw [cutN] at h
    split at h
    · rename_i m hm
      rw [Sq.goneAt_map hl hm] at h
      cases j with
      | zero =>
       obtain ⟨x,hx,e⟩:=Sq.fX_some hm
       exact ⟨x,List.mem_of_getElem? hx,e⟩
      | succ j =>
       obtain ⟨y,hy,e⟩:=i2 h j (by omega)
       obtain ⟨x,hx,rfl⟩:=List.mem_map.1 hy
       exact ⟨x,hx,by rw [ha.id] at e; rw [e,show k+1+j=k+(j+1) by omega]⟩
    · cases h
def addM (m:MK) (v:List MK):List MK:=v.take (plcM m v)++[m]++v.drop (plcM m v)
theorem addM_perm (m:MK) (v:List MK):(addM m v).Perm (m::v):=by
 unfold addM
 have:(v.take (plcM m v)++[m]++v.drop (plcM m v)).Perm (m::(v.take (plcM m v)++v.drop (plcM m v))):=by
  rw [List.append_assoc]
  exact List.perm_middle
 rw [List.take_append_drop] at this
 exact this
theorem less_or {a b:MK} (h:a.dot≠b.dot):lessM a b=true∨lessM b a=true:=by
 rw [less_iff,less_iff]
 simp only [MK.dot,ne_eq,Prod.mk.injEq,not_and] at h
 by_cases e:a.dv=b.dv
 · have:=h e; omega
 · omega
theorem addM_sorted {m:MK} {v:List MK} (h:v.Pairwise fun a c=>lessM a c=true) (hd:∀ a∈v,a.dot≠m.dot):(addM m v).Pairwise fun a c=>lessM a c=true:=by
 have h1:∀ a∈v.take (plcM m v),lessM a m=true:=fun a ha=>by
  obtain ⟨j,hj,rfl⟩:=List.getElem_of_mem ha
  rw [List.length_take] at hj
  rw [List.getElem_take]
  exact (plcM_lt h (by omega)).2 (by omega)
 have h2:∀ a∈v.drop (plcM m v),lessM m a=true:=fun a ha=>by
  obtain ⟨j,hj,rfl⟩:=List.getElem_of_mem ha
  rw [List.length_drop] at hj
  rw [List.getElem_drop]
  have hlt:plcM m v+j<v.length:=by omega
  rcases less_or (hd _ (List.getElem_mem hlt)) with k | k
  · have:=(plcM_lt h hlt).1 k; omega
  · exact k
 have hs:=h
 rw [← List.take_append_drop (plcM m v) v] at hs
 obtain ⟨s1,s2,s3⟩:=List.pairwise_append.1 hs
 unfold addM
 refine List.pairwise_append.2 ⟨List.pairwise_append.2 ⟨s1,List.pairwise_singleton _ _,fun a ha b hb=>?_⟩,s2,fun a ha b hb=>?_⟩
 · rw [List.mem_singleton.1 hb]; exact h1 a ha
 · rcases List.mem_append.1 ha with ha | ha
   · exact s3 a ha b hb
   · rw [List.mem_singleton.1 ha]; exact h2 b hb
theorem addM_ok {l:List CE} {m:MK} {v:List MK} (h:OkV l v) (hm:isMk l m=true) (hd:∀ a∈v,a.dot≠m.dot):OkV l (addM m v):=by
 refine ⟨fun a ha=>?_,addM_sorted h.sorted hd,?_⟩
 · rcases List.mem_cons.1 ((addM_perm m v).mem_iff.1 ha) with rfl | ha
   · exact hm
   · exact h.isM a ha
 · have:(m::v).Pairwise fun a b=>a.dot≠b.dot:=List.pairwise_cons.2 ⟨fun a ha e=>hd a ha e.symm,h.dots⟩
   exact (List.Perm.pairwise_iff (fun {a b} h e=>h e.symm) (addM_perm m v)).2 this
theorem isMk_iff {l:List CE} {m:MK}:isMk l m=true↔(∃ x∈l,x.id=m.frm)∧(∃ x∈l,x.id=m.upto)∧(Vec.isDotB (m.dv,m.sq) && decide (m.tm≥1) && decide (m.tm≤1099511627776) && decide (m.st≥0) && decide (m.st<16))=true:=by
 have key:∀ i j k:Int,(fX (pid i j k) l).isSome=true↔∃ x∈l,x.id=(i,j,k):=fun i j k=>by
  constructor
  · intro h
    obtain ⟨m,hm⟩:=Option.isSome_iff_exists.1 h
    obtain ⟨x,hx,e⟩:=Sq.fX_some hm
    exact ⟨x,List.mem_of_getElem? hx,e⟩
  · rintro ⟨x,hx,e⟩
    obtain ⟨m,hm⟩:=Sq.fX_mem hx e
    rw [hm]; rfl
 unfold isMk MK.frm MK.upto
 rw [← key,← key]
 simp only [Bool.and_eq_true]
 constructor
 · rintro ⟨⟨⟨⟨⟨⟨h1,h2⟩,h3⟩,h4⟩,h5⟩,h6⟩,h7⟩
   exact ⟨h1,h2,⟨⟨⟨h3,h4⟩,h5⟩,h6⟩,h7⟩
 · rintro ⟨h1,h2,⟨⟨⟨h3,h4⟩,h5⟩,h6⟩,h7⟩
   exact ⟨⟨⟨⟨⟨⟨h1,h2⟩,h3⟩,h4⟩,h5⟩,h6⟩,h7⟩
theorem isMk_up {l l':List CE} {m:MK} (h:∀ x∈l,∃ y∈l',y.id=x.id) (hm:isMk l m=true):isMk l' m=true:=by
 obtain ⟨⟨x,hx,e⟩,⟨x',hx',e'⟩,k⟩:=isMk_iff.1 hm
 obtain ⟨y,hy,e2⟩:=h x hx
 obtain ⟨y',hy',e2'⟩:=h x' hx'
 exact isMk_iff.2 ⟨⟨y,hy,e2.trans e⟩,⟨y',hy',e2'.trans e'⟩,k⟩
theorem OkV.up {l l':List CE} {v:List MK} (h:OkV l v) (hs:∀ x∈l,∃ y∈l',y.id=x.id):OkV l' v:=⟨fun m hm=>isMk_up hs (h.isM m hm),h.sorted,h.dots⟩
end Go.Tx


namespace Go.Tx
open Go Go.Am Go.Proofs Go.Seat
open Go.Sq (CE cel ces ida idv pid fX fiO OkRs OkR chkE insE insV formsB Ok Ids lvl all clash More ers goneAt)
def TL (e:ED):List CE:=tyL e.dv e.sq e.tm e.s e.s.size 0 (e.a,e.b,e.c)
def CF (e:ED):CE→CE:=cutF e.a e.b e.c e.n.toNat 0
def TyOk (t:TE) (e:ED):Prop:=(1≤e.s.size∧e.s.size≤64)∧(tyN e.dv e.sq e.tm e.s e.s.size 0 (e.a,e.b,e.c) t.cells).2=0
def CuOk (t:TE) (e:ED):Prop:=(1≤e.n∧e.n≤64)∧CutOk e.a e.b e.c e.n.toNat 0 t.cells
def AdOk (t:TE) (e:ED):Prop:=isMk t.cells e.m=true∧∀ a∈t.marks,a.dot≠e.m.dot
theorem Val.chk {t:TE} (h:Val t):chkT t=0:=chkT_iff.2 h
theorem Val.ids {t:TE} (h:Val t):Ids t.cells:=(Sq.forms_iff.1 (Sq.chk_iff.1 h.cells).1).1.ids
theorem typ_mk {t:TE} {e:ED} (hV:Val t) (h:TyOk t e):typR t e.dv e.sq e.tm (e.a,e.b,e.c) e.s=(⟨(tyN e.dv e.sq e.tm e.s e.s.size 0 (e.a,e.b,e.c) t.cells).1,t.marks⟩,0):=by
 obtain ⟨⟨h1,h2⟩,h3⟩:=h
 unfold typR
 rw [if_neg (by simpa using hV.chk),if_neg (by omega),if_pos h3]
theorem cut_mk {t:TE} {e:ED} (hV:Val t) (h:CuOk t e):cutR t (e.a,e.b,e.c) e.n=(⟨t.cells.map (CF e),t.marks⟩,0):=by
 obtain ⟨⟨h1,h2⟩,h3⟩:=h
 unfold cutR
 rw [if_neg (by simpa using hV.chk),if_neg (by omega),(cut_is hV.ids).1 h3]
 rfl
theorem add_mk {t:TE} {e:ED} (hV:Val t) (h:AdOk t e):addR t e.m=(⟨t.cells,addM e.m t.marks⟩,0):=by
 obtain ⟨h1,h2⟩:=h
 unfold addR
 rw [if_neg (by simpa using hV.chk),if_neg (by rw [h1]; decide),if_neg]
 · rfl
 · intro hc
   obtain ⟨a,ha,e⟩:=List.any_eq_true.1 hc
   exact h2 a ha (of_decide_eq_true e)
theorem ed_inv {t:TE} {e:ED} (h:(edR t e).2=0):Val t∧(e.kd=0∧TyOk t e∧edR t e=(⟨all (t.cells++TL e),t.marks⟩,0)∨e.kd≠0∧e.kd=1∧CuOk t e∧edR t e=(⟨t.cells.map (CF e),t.marks⟩,0)∨e.kd≠0∧e.kd≠1∧AdOk t e∧edR t e=(⟨t.cells,addM e.m t.marks⟩,0)):=by
 have hv:chkT t=0:=by
  unfold edR at h
  split at h
  · unfold typR at h
    split at h
    · rename_i hc; exact absurd h hc
    · rename_i hc; simpa using hc
  · split at h
    · unfold cutR at h
      split at h
      · rename_i hc; exact absurd h hc
      · rename_i hc; simpa using hc
    · unfold addR at h
      split at h
      · rename_i hc; exact absurd h hc
      · rename_i hc; simpa using hc
 have hV:=chkT_iff.1 hv
 refine ⟨hV,?_⟩
 by_cases h0:e.kd=0
 · have e1:edR t e=typR t e.dv e.sq e.tm (e.a,e.b,e.c) e.s:=by unfold edR; rw [if_pos h0]
   rw [e1] at h ⊢
   have hT:TyOk t e:=by
    unfold typR at h
    rw [if_neg (by simpa using hv)] at h
    split at h
    · cases h
    · rename_i hs
      split at h
      · rename_i ht; exact ⟨by omega,ht⟩
      · rename_i ht; exact absurd h ht
   refine .inl ⟨h0,hT,?_⟩
   rw [typ_mk hV hT,(ty_is hV.cells hT.2).1]
   rfl
 · by_cases h1:e.kd=1
   · have e1:edR t e=cutR t (e.a,e.b,e.c) e.n:=by unfold edR; rw [if_neg h0,if_pos h1]
     rw [e1] at h ⊢
     have hC:CuOk t e:=by
      unfold cutR at h
      rw [if_neg (by simpa using hv)] at h
      split at h
      · cases h
      · rename_i hs
        split at h
        · rename_i hr; exact ⟨by omega,(cut_is hV.ids).2 hr⟩
        · cases h
     exact .inr (.inl ⟨h0,h1,hC,cut_mk hV hC⟩)
   · have e1:edR t e=addR t e.m:=by unfold edR; rw [if_neg h0,if_neg h1]
     rw [e1] at h ⊢
     have hA:AdOk t e:=by
      unfold addR at h
      rw [if_neg (by simpa using hv)] at h
      split at h
      · cases h
      · rename_i hs
        split at h
        · cases h
        · rename_i ha
          refine ⟨by simpa using hs,fun a hm e=>ha (List.any_eq_true.2 ⟨a,hm,decide_eq_true e⟩)⟩
     exact .inr (.inr ⟨h0,h1,hA,add_mk hV hA⟩)
theorem tyL_one {dv sq tm:Int} {s:ByteArray}:∀ {n k:Nat} {i:Sq.ID},k+n=s.size→∀ x∈tyL dv sq tm s n k i,x.vl.size=1
 | 0,_,_,_,x,hx=>by cases hx
 | n+1,k,i,h,x,hx=>by
  rcases List.mem_cons.1 hx with rfl | hx
  · show (s.extract k (k+1)).size=1
    rw [ByteArray.size_extract]
    omega
  · exact tyL_one (by omega) x hx
theorem val_ty {t:TE} {e:ED} (hV:Val t) (h:TyOk t e):Val ⟨all (t.cells++TL e),t.marks⟩∧formsB (t.cells++TL e)=true:=by
 obtain ⟨a1,a2⟩:=ty_is hV.cells h.2
 refine ⟨⟨(Sq.ord_ord a2).2.2,fun c hc=>?_,hV.marks.up fun x hx=>⟨x,(Sq.all_is a2).mem_iff.2 (List.mem_append_left _ hx),rfl⟩⟩,a2⟩
 rcases List.mem_append.1 ((Sq.all_is a2).mem_iff.1 hc) with hc | hc
 · exact hV.one c hc
 · exact tyL_one (by omega) c hc
theorem val_map {t:TE} {g:CE→CE} (hg:Sq.Alike g) (hV:Val t):Val ⟨t.cells.map g,t.marks⟩:=by
 refine ⟨hg.chk hV.cells,fun c hc=>?_,hV.marks.up fun x hx=>⟨g x,List.mem_map.2 ⟨x,hx,rfl⟩,hg.id x⟩⟩
 obtain ⟨x,hx,rfl⟩:=List.mem_map.1 hc
 rw [hg.vl]; exact hV.one x hx
theorem val_ad {t:TE} {e:ED} (hV:Val t) (h:AdOk t e):Val ⟨t.cells,addM e.m t.marks⟩:=⟨hV.cells,hV.one,addM_ok hV.marks h.1 h.2⟩
theorem ed_val {t:TE} {e:ED} (h:(edR t e).2=0):Val (edR t e).1:=by
 obtain ⟨hV,⟨_,h1,e1⟩ | ⟨_,_,h1,e1⟩ | ⟨_,_,h1,e1⟩⟩:=ed_inv h
 · rw [e1]; exact (val_ty hV h1).1
 · rw [e1]; exact val_map cutF_alike hV
 · rw [e1]; exact val_ad hV h1
theorem CutOk.up {a b c:Int} {n k:Nat} {l l':List CE} (h:CutOk a b c n k l) (hs:∀ x∈l,∃ y∈l',y.id=x.id):CutOk a b c n k l':=fun j hj=>by
 obtain ⟨x,hx,e⟩:=h j hj
 obtain ⟨y,hy,e'⟩:=hs x hx
 exact ⟨y,hy,e'.trans e⟩
end Go.Tx


namespace Go.Tx
open Go Go.Am Go.Proofs Go.Seat
open Go.Sq (CE cel ces ida idv pid fX fiO OkRs OkR chkE)
end Go.Tx


namespace Go.Tx
open Go Go.Am Go.Proofs Go.Seat
abbrev OkA (t:TE):Prop:=OkT t∧SzC t.cells∧∀ x∈t.cells,InR x.tm
end Go.Tx


namespace Go.Tx
open Go Go.Am Go.Proofs Go.Seat
open Go.Sq (CE cel ces ida idv pid fX fiO OkRs OkR chkE insE insV formsB Ok Ids lvl all clash More ers goneAt)
end Go.Tx


namespace Go.Tx
open Go Go.Am Go.Proofs Go.Seat
open Go.Sq (CE cel ces ida idv pid fX fiO OkRs OkR chkE insE insV formsB Ok Ids lvl all clash More ers goneAt)
theorem mem_stF {t:TE} {i:Int} {x:Nat}:∀ {n s:Nat},((x:Nat):Int)∈stF t i n s↔(s≤x∧x<s+n)∧onF t.cells i (x:Int) false t.marks=true
 | 0,s=>by simp [stF]; omega
 | n+1,s=>by
  rw [stF]
  have ih:=mem_stF (t:=t) (i:=i) (x:=x) (n:=n) (s:=s+1)
  split
  · rename_i h
    rw [List.mem_cons,ih]
    constructor
    · rintro (e | ⟨⟨h1,h2⟩,h3⟩)
      · have e:x=s:=by omega
        subst e
        exact ⟨⟨by omega,by omega⟩,h⟩
      · exact ⟨⟨by omega,by omega⟩,h3⟩
    · rintro ⟨⟨h1,h2⟩,h3⟩
      by_cases e:x=s
      · subst e; exact .inl rfl
      · exact .inr ⟨⟨by omega,by omega⟩,h3⟩
  · rename_i h
    rw [ih]
    constructor
    · rintro ⟨⟨h1,h2⟩,h3⟩
      exact ⟨⟨by omega,by omega⟩,h3⟩
    · rintro ⟨⟨h1,h2⟩,h3⟩
      by_cases e:x=s
      · subst e; exact absurd h3 h
      · exact ⟨⟨by omega,by omega⟩,h3⟩
theorem mem_sty {t:TE} {i:Int} {x:Nat} (hx:x<16):((x:Nat):Int)∈styV t i↔onF t.cells i (x:Int) false t.marks=true:=by
 unfold styV
 rw [mem_stF]
 exact ⟨fun h=>h.2,fun h=>⟨⟨by omega,by omega⟩,h⟩⟩
theorem onF_append {l:List CE} {i s:Int} (w:List MK):∀ {b:Bool} {v:List MK},onF l i s b (v++w)=onF l i s (onF l i s b v) w
 | b,[]=>rfl
 | b,m::v=>by rw [List.cons_append,onF,onF_append w]; rfl
theorem addM_last {m:MK} {v:List MK} (h:∀ a∈v,a.tm<m.tm):addM m v=v++[m]:=by
 have:plcM m v=v.length:=by
  have key:∀ {v:List MK},(∀ a∈v,a.tm<m.tm)→v.takeWhile (fun a=>lessM a m)=v:=fun {v}=>by
   induction v with
   | nil=>exact fun _=>rfl
   | cons a v ih =>
    intro h
    rw [List.takeWhile_cons,if_pos (less_iff.2 (.inl (h a (by simp)))),ih fun x hx=>h x (List.mem_cons_of_mem _ hx)]
  unfold plcM
  rw [key h]
 unfold addM
 rw [this]
 simp
theorem addR_z {t:TE} {m:MK} (h:(addR t m).2≠0):(addR t m).1=zT:=by
 unfold addR at *
 split
 · rfl
 · split
   · rfl
   · split
     · rfl
     · rename_i a b c
       rw [if_neg a,if_neg b,if_neg c] at h
       exact absurd rfl h
def eAdd (m:MK):ED:=⟨2,0,0,0,0,0,0,0,ByteArray.empty,m⟩
theorem eAdd_is (t:TE) (m:MK):edR t (eAdd m)=addR t m:=by
 unfold edR eAdd
 rw [if_neg (show ¬ (2:Int)=0 by decide),if_neg (show ¬ (2:Int)=1 by decide)]
theorem addR_y {t:TE} {m:MK} (h:(addR t m).2=0):Val t∧isMk t.cells m=true∧(∀ a∈t.marks,a.dot≠m.dot)∧addR t m=(⟨t.cells,addM m t.marks⟩,0):=by
 rw [← eAdd_is] at h ⊢
 obtain ⟨hV,⟨h0,_⟩ | ⟨_,h1,_⟩ | ⟨_,_,h1,e1⟩⟩:=ed_inv h
 · exact absurd h0 (show ¬ (2:Int)=0 by decide)
 · exact absurd h1 (show ¬ (2:Int)=1 by decide)
 · exact ⟨hV,h1.1,h1.2,e1⟩
theorem sumS_one:∀ {l:List CE},(∀ c∈l,c.vl.size=1)→sumS l=l.length
 | [],_=>rfl
 | c::l,h=>by rw [sumS_cons,h c (by simp),sumS_one fun x hx=>h x (List.mem_cons_of_mem _ hx),List.length_cons]; omega
theorem styR_ok {t:TE} (hV:Val t) {k:Nat} (hk:k<t.cells.length):styR t k=(styV t k,0):=by
 unfold styR
 rw [if_neg (by simpa using hV.chk),if_neg (by omega)]
theorem mkl_loop (t:TE) (m:MK) (hl:t.marks.length≤12):∀ n k,t.marks.length - k=n→k≤t.marks.length→(((t.marks.drop k).any fun a=>decide (a.tm≥m.tm))=true→RunL P G none 0 (loopAt P 8 0) (mkS t m k) .ret (mkR t m))∧(((t.marks.drop k).any fun a=>decide (a.tm≥m.tm))=false→RunL P G none 0 (loopAt P 8 0) (mkS t m k) (.exit 0) (mkX t m)):=by
 intro n
 induction n with
 | zero =>
  intro k hn hk
  rw [List.drop_eq_nil_of_le (by omega)]
  exact ⟨fun h=>(by cases h),fun _=>mkl_e t m k (by omega) trivial⟩
 | succ n ih =>
  intro k hn hk
  have hlt:k<t.marks.length:=by omega
  have hx:t.marks[k]? = some t.marks[k]:=List.getElem?_eq_getElem hlt
  rw [List.drop_eq_getElem_cons hlt,List.any_cons]
  obtain ⟨n1,n2⟩:=ih (k+1) (by omega) (by omega)
  by_cases hle:t.marks[k].tm≥m.tm
  · rw [decide_eq_true hle,Bool.true_or]
    exact ⟨fun _=>mkl_t t m _ k hx hle (by omega) trivial,fun h=>(by cases h)⟩
  · rw [decide_eq_false hle,Bool.false_or]
    exact ⟨fun h=>mkl_n t m _ k hl hx hle (by omega) _ _ (n1 h),fun h=>mkl_n t m _ k hl hx hle (by omega) _ _ (n2 h)⟩
theorem mki_loop (t:TE) (v:List MK) (m:MK) (k:Nat) (la lb:List Int) (hla:la.length≤16) (hlb:lb.length≤16) (hc:t.cells.length≤40)
 (hq:∀ j:Nat,j<16→decide ((j:Int)∈lb)=if (j:Int)=m.st∧conB t.cells m k=true then m.on else decide ((j:Int)∈la)):∀ n j,16 - j=n→j≤16→RunL P G none 0 (loopAt P 8 2) (miS t v m k la lb j) (.exit 4) (miX t v m k):=by
 intro n
 induction n with
 | zero=>intro j hn hj; exact mki_e t v m k la lb j (by omega) trivial
 | succ n ih =>
  intro j hn hj
  have nx:=ih (j+1) (by omega) (by omega)
  have h1:=in_c la j (by omega)
  have h2:=in_c lb j (by omega)
  have h3:=con_c t.cells m k (by omega)
  have hh:=hq j (by omega)
  refine mki_n t v m k la lb j _ _ _ (by omega) h1 h2 h3 _ _ ⟨fun hs=>⟨fun hcc=>?_,fun hcc=>?_⟩,fun hs=>?_⟩
  · rw [if_pos ⟨hs,hcc⟩] at hh
    exact ⟨fun _=>nx,fun q=>by rw [hh] at q; simp at q⟩
  · rw [if_neg (fun q=>by rw [q.2] at hcc; cases hcc)] at hh
    exact ⟨fun _=>nx,fun q=>by rw [hh] at q; simp at q⟩
  · rw [if_neg (fun q=>hs q.1)] at hh
    exact ⟨fun _=>nx,fun q=>by rw [hh] at q; simp at q⟩
theorem mko_loop (t:TE) (m:MK) (v:List MK) (hc:t.cells.length≤40) (hS1:∀ k:Nat,k<t.cells.length→CallC P G 13 [txt t,int k] [] (.ret (.tup [ils (styV t k),int 0])) [])
 (hS2:∀ k:Nat,k<t.cells.length→CallC P G 13 [.agg [ces t.cells,mks v],int k] [] (.ret (.tup [ils (styV ⟨t.cells,v⟩ k),int 0])) []) (hv:v=t.marks++[m]):∀ n k,t.cells.length - k=n→k≤t.cells.length→RunL P G none 0 (loopAt P 8 1) (moS t v m k) (.exit 2) (moX t v m):=by
 intro n
 induction n with
 | zero=>intro k hn hk; exact mko_e t v m k (by omega) trivial
 | succ n ih =>
  intro k hn hk
  refine mko_n t v m k _ _ hc (by omega) (hS1 k (by omega)) (hS2 k (by omega)) (mki_loop t v m k _ _ (styV_len _ _) (styV_len _ _) hc (fun j hj=>?_) 16 0 rfl (by omega)) _ _ (ih (k+1) (by omega) (by omega))
  rw [Bool.eq_iff_iff,decide_eq_true_iff,mem_sty hj]
  show onF t.cells k (j:Int) false v=true↔_
  rw [hv,onF_append,onF,onF]
  by_cases hs:(j:Int)=m.st∧conB t.cells m k=true
  · rw [if_pos hs,if_pos ⟨hs.1.symm,hs.2⟩]
  · rw [if_neg hs,if_neg (fun q=>hs ⟨q.1.symm,q.2⟩),decide_eq_true_iff,mem_sty hj]
theorem tmrk_h (t:TE) (m:MK) (h:OkA t) (hm:OkM m):CallC P G 8 [txt t,mke m] [] (.ret (bool true)) []:=by
 have hf:=few_c t
 by_cases hF:t.cells.length≤40∧t.marks.length≤12
 · rw [decide_eq_true hF] at hf
   obtain ⟨l1,l2⟩:=hF
   have hL:LenT t:=⟨by omega,by omega⟩
   obtain ⟨n1,n2⟩:=mkl_loop t m l2 t.marks.length 0 rfl (by omega)
   rw [List.drop_zero] at n1 n2
   cases ha:t.marks.any fun a=>decide (a.tm≥m.tm) with
   | true=>exact mk_1 t m hf (n1 ha) trivial
   | false =>
    have hA:=add_c t m hL h.1
    by_cases he:(addR t m).2=0
    · obtain ⟨hV,a1,a2,a3⟩:=addR_y he
      have hlast:∀ a∈t.marks,a.tm<m.tm:=fun a ha'=>by
       have:=List.any_eq_false.1 ha a ha'
       simp only [ge_iff_le,decide_eq_true_eq,Int.not_le] at this
       exact this
      rw [addM_last hlast] at a3
      rw [a3] at hA
      have hV2:Val ⟨t.cells,t.marks++[m]⟩:=by
       have:=ed_val (t:=t) (e:=eAdd m) (by rw [eAdd_is]; exact he)
       rw [eAdd_is,a3] at this
       exact this
      have hO2:OkT ⟨t.cells,t.marks++[m]⟩:=⟨h.1.cells,fun x hx=>(List.mem_append.1 hx).elim (h.1.marks x) fun q=>by rw [List.mem_singleton.1 q]; exact hm⟩
      have hL2:LenT ⟨t.cells,t.marks++[m]⟩:=⟨hL.cells,by simp; omega⟩
      have hsum:sumS t.cells≤140737488355328:=by rw [sumS_one hV.one]; omega
      have hsame:=scells_c t.cells t.cells (by omega) (by omega)
      rw [decide_eq_true rfl] at hsame
      refine mk_3 t (t.marks++[m]) m (strV t) hf (n2 ha) hA hsame (str_c ⟨t.cells,t.marks++[m]⟩ (by show t.cells.length≤_; omega) hsum) (str_c t (by omega) hsum)
       (mko_loop t m (t.marks++[m]) l1 (fun k hk=>?_) (fun k hk=>?_) rfl t.cells.length 0 rfl (by omega)) ⟨fun _=>trivial,fun q=>by simp at q⟩
      · have:=styles_c t k hL h.1
        rw [styR_ok hV hk] at this
        exact this
      · have:=styles_c ⟨t.cells,t.marks++[m]⟩ k hL2 hO2
        rw [styR_ok hV2 hk] at this
        exact this
    · have hz:=addR_z he
      have hA2:CallC P G 32 [txt t,mke m] [] (.ret (.tup [.agg [ces [],mks []],int (addR t m).2])) []:=by rw [hz] at hA; exact hA
      exact mk_2 t m _ he hf (n2 ha) hA2 trivial
 · rw [decide_eq_false hF] at hf
   exact mk_0 t m hf trivial
end Go.Tx
