import Derived.Test.YteaclamkacmhmaaDoorG22
import Derived.OpenShut
import Derived.LaidMore
import Derived.Test.YteaclamkacmhmaaDoorRows
import Derived.KernelRfl
set_option maxRecDepth 100000
set_option linter.unusedSimpArgs false
set_option linter.unusedVariables false

namespace Go.Tx
open Go Go.Am Go.Proofs Go.Seat
open Go.Sq (CE cel ces ida idv pid fX fiO OkRs OkR chkE)
theorem cz3:Tryd.prog.cellsOf 3=1:=by kernel_rfl
theorem cz4:Tryd.prog.cellsOf 4=1:=by kernel_rfl
theorem cz5:Tryd.prog.cellsOf 5=1:=by kernel_rfl
theorem cz9:Tryd.prog.cellsOf 9=1:=by kernel_rfl
theorem czCs:Tryd.prog.cellsOf 22=1:=by kernel_rfl
theorem czMs:Tryd.prog.cellsOf 23=1:=by kernel_rfl
theorem czID:Tryd.prog.cellsOf 45=3:=by kernel_rfl
theorem czD:Tryd.prog.cellsOf 43=2:=by kernel_rfl
theorem czC:Tryd.prog.cellsOf 58=9:=by kernel_rfl
theorem czM:Tryd.prog.cellsOf 47=11:=by kernel_rfl
theorem czT:Tryd.prog.cellsOf 25=2:=by kernel_rfl
noncomputable def cInt:Cod Tryd.prog 3 Int:=Cod.int Tryd.underlying3 cz3
noncomputable def cStr:Cod Tryd.prog 9 ByteArray:=Cod.str Tryd.underlying9 cz9
noncomputable def cBool:Cod Tryd.prog 4 Bool:=Cod.bool Tryd.underlying4 cz4
noncomputable def cDot:Cod Tryd.prog 43 (Int × Int):=Cod.struct Tryd.underlying43 (by kernel_rfl) (FCod.cons cInt rfl (FCod.cons cInt (by kernel_rfl) FCod.nil)) (fun a=>(a.1,a.2.1)) (fun a=>[Am.int a.1,Am.int a.2]) (fun _=>rfl) (fun _=>czD.symm)
noncomputable def cID:Cod Tryd.prog 45 (Int × Int × Int):=Cod.struct Tryd.underlying45 (by kernel_rfl) (FCod.cons cInt rfl (FCod.cons cInt (by kernel_rfl) (FCod.cons cInt (by kernel_rfl) FCod.nil))) (fun a=>(a.1,a.2.1,a.2.2.1)) (fun a=>[Am.int a.1,Am.int a.2.1,Am.int a.2.2]) (fun _=>rfl) (fun _=>czID.symm)
abbrev AC:=(Int × Int × Int) × (Int × Int × Int) × Int × ByteArray × Bool × Unit
noncomputable def cCE:Cod Tryd.prog 58 CE:=Cod.struct Tryd.underlying58 (by kernel_rfl) (FCod.cons cID rfl (FCod.cons cID (by kernel_rfl) (FCod.cons cInt (by kernel_rfl) (FCod.cons cStr (by kernel_rfl) (FCod.cons cBool (by kernel_rfl) FCod.nil)))))
 (fun a:AC=>⟨a.1.1,a.1.2.1,a.1.2.2,a.2.1.1,a.2.1.2.1,a.2.1.2.2,a.2.2.1,a.2.2.2.1,a.2.2.2.2.1⟩) Sq.enc (fun a:AC=>rfl) (fun _=>czC.symm)
noncomputable def cCells:Cod Tryd.prog 22 (List CE):=Cod.slice Tryd.underlying22 czCs (by rw [czC]; decide) cCE
theorem cCells_enc (v:List CE):cCells.enc v=[ces v]:=by
 show [AV.sl (Tryd.prog.cellsOf 58) false (v.map Sq.enc)]=[AV.sl 9 false (v.map Sq.enc)]
 rw [czC]
abbrev AMk:=(Int × Int) × Int × (Int × Int × Int) × (Int × Int × Int) × Int × Bool × Unit
noncomputable def cMK:Cod Tryd.prog 47 MK:=Cod.struct Tryd.underlying47 (by kernel_rfl) (FCod.cons cDot rfl (FCod.cons cInt (by kernel_rfl) (FCod.cons cID (by kernel_rfl) (FCod.cons cID (by kernel_rfl) (FCod.cons cInt (by kernel_rfl) (FCod.cons cBool (by kernel_rfl) FCod.nil))))))
 (fun a:AMk=>⟨a.1.1,a.1.2,a.2.1,a.2.2.1.1,a.2.2.1.2.1,a.2.2.1.2.2,a.2.2.2.1.1,a.2.2.2.1.2.1,a.2.2.2.1.2.2,a.2.2.2.2.1,a.2.2.2.2.2.1⟩) enc (fun a:AMk=>rfl) (fun _=>czM.symm)
noncomputable def cMarks:Cod Tryd.prog 23 (List MK):=Cod.slice Tryd.underlying23 czMs (by rw [czM]; decide) cMK
theorem cMarks_enc (v:List MK):cMarks.enc v=[mks v]:=by
 show [AV.sl (Tryd.prog.cellsOf 47) false (v.map enc)]=[AV.sl 11 false (v.map enc)]
 rw [czM]
abbrev AT:=List CE × List MK × Unit
noncomputable def cTE:Cod Tryd.prog 25 TE:=Cod.struct Tryd.underlying25 (by kernel_rfl) (FCod.cons cCells rfl (FCod.cons cMarks (by kernel_rfl) FCod.nil)) (fun a:AT=>⟨a.1,a.2.1⟩) (fun t=>[ces t.cells,mks t.marks]) (fun a:AT=>by
 show [ces a.1,mks a.2.1]=cCells.enc a.1++(cMarks.enc a.2.1++[])
 rw [cCells_enc,cMarks_enc]; rfl) (fun _=>czT.symm)
theorem cDot_ok {i:Int × Int} (h:cDot.good i):InR i.1∧InR i.2:=by
 obtain ⟨⟨_,_,_⟩,rfl,f1,f2,_⟩:=h
 exact ⟨f1,f2⟩
theorem cID_ok {i:Int × Int × Int} (h:cID.good i):InR i.1∧InR i.2.1∧InR i.2.2:=by
 obtain ⟨⟨_,_,_,_⟩,rfl,f1,f2,f3,_⟩:=h
 exact ⟨f1,f2,f3⟩
def SzC (l:List CE):Prop:=∀ x∈l,x.vl.size≤9223372036854775807
theorem cCE_ok {c:CE} (h:cCE.good c):OkR c∧c.vl.size≤9223372036854775807∧InR c.tm:=by
 obtain ⟨⟨_,_,_,_,_,_⟩,rfl,f1,f2,f3,f4,_⟩:=h
 exact ⟨⟨cID_ok f1,cID_ok f2⟩,f4,f3⟩
theorem cMK_ok {m:MK} (h:cMK.good m):OkM m:=by
 obtain ⟨⟨_,_,_,_,_,_,_⟩,rfl,f1,f2,f3,f4,f5,_⟩:=h
 have h1:=cDot_ok f1
 have h3:=cID_ok f3
 have h4:=cID_ok f4
 exact ⟨h1.1,h1.2,f2,h3.1,h3.2.1,h3.2.2,h4.1,h4.2.1,h4.2.2,f5⟩
theorem cTE_ok {t:TE} (h:cTE.good t):OkT t∧SzC t.cells∧∀ x∈t.cells,InR x.tm:=by
 obtain ⟨⟨_,_,_⟩,rfl,f1,f2,_⟩:=h
 exact ⟨⟨fun x hx=>(cCE_ok (f1.2 x hx)).1,fun x hx=>cMK_ok (f2.2 x hx)⟩,fun x hx=>(cCE_ok (f1.2 x hx)).2.1,fun x hx=>(cCE_ok (f1.2 x hx)).2.2⟩
section
variable {H:Type} {en:TypeId × Value→H} {W:World} {base:Nat} {v:Value} {d:DataW H} {ps:List MemPlace}
theorem reads_agg {α:Type} {t:TypeId} {fs:Array Field} (c:Cod Tryd.prog t α) (hu:Tryd.prog.underlying t=some (.struct fs)) (hv:Value.okWide Tryd.prog W .any base t v) (h:DataW.Trod en Tryd.prog W 0 (fun _=>true) true t v d ps):∃ a,c.good a∧Rep (view0 W) (.agg (c.enc a)) v:=by
 have hagg:∃ cs,v = .agg cs:=by
  unfold Value.okWide at hv
  rw [hu] at hv
  exact ⟨_,hv.choose_spec.1⟩
 obtain ⟨⟨cs⟩,rfl⟩:=hagg
 obtain ⟨n,hn⟩:=h
 have hn':DataW.trod en Tryd.prog W 0 (fun _=>true) true n t cs=some (d,ps):=hn
 obtain ⟨o,g,hl,hp⟩:=c.rd hn'
 exact ⟨o,g,.agg _ _ hl fun j hj=>.pure _ _ (hp j (by rw [hl]; exact hj)).1⟩
theorem reads_text (hv:Value.okWide Tryd.prog W .any base 25 v) (h:DataW.Trod en Tryd.prog W 0 (fun _=>true) true 25 v d ps):∃ t:TE,(OkT t∧SzC t.cells∧∀ x∈t.cells,InR x.tm)∧Rep (view0 W) (txt t) v:=by
 obtain ⟨a,h1,h2⟩:=reads_agg cTE Tryd.underlying25 hv h
 exact ⟨a,cTE_ok h1,h2⟩
theorem reads_id (hv:Value.okWide Tryd.prog W .any base 45 v) (h:DataW.Trod en Tryd.prog W 0 (fun _=>true) true 45 v d ps):∃ i:Int × Int × Int,(InR i.1∧InR i.2.1∧InR i.2.2)∧Rep (view0 W) (ida i.1 i.2.1 i.2.2) v:=by
 obtain ⟨a,h1,h2⟩:=reads_agg cID Tryd.underlying45 hv h
 exact ⟨a,cID_ok h1,h2⟩
theorem reads_dot (hv:Value.okWide Tryd.prog W .any base 43 v) (h:DataW.Trod en Tryd.prog W 0 (fun _=>true) true 43 v d ps):∃ i:Int × Int,(InR i.1∧InR i.2)∧Rep (view0 W) (dta i.1 i.2) v:=by
 obtain ⟨a,h1,h2⟩:=reads_agg cDot Tryd.underlying43 hv h
 exact ⟨a,cDot_ok h1,h2⟩
theorem reads_int (hv:Value.okWide Tryd.prog W .any base 3 v) (h:DataW.Trod en Tryd.prog W 0 (fun _=>true) true 3 v d ps):∃ n:Int,InR n∧Rep (view0 W) (Am.int n) v :=
 cInt.one (by kernel_rfl) hv h (mk:=Am.int) (fun _=>rfl)
theorem reads_str (hv:Value.okWide Tryd.prog W .any base 9 v) (h:DataW.Trod en Tryd.prog W 0 (fun _=>true) true 9 v d ps):∃ s:ByteArray,s.size≤9223372036854775807∧Rep (view0 W) (Am.str s) v :=
 cStr.one (by kernel_rfl) hv h (mk:=Am.str) (fun _=>rfl)
end
theorem gT:Tryd.prog.globalNamed "math/bits.deBruijn32tab" = some 0:=by kernel_rfl
theorem tT:(Tryd.prog.globals[0]?).map (·.type)=some 124:=by kernel_rfl
theorem globs {W:World} (h:laidMetH Tryd.prog [("math/bits.deBruijn32tab",Go.Proofs.YteaclamkacmhmaaDoor.Rows.laid_math_bits_deBruijn32tab)] W):∀ g cs,G g=some cs→PRep W (fun _=>False) (.imm cs) (.pointer (some ⟨g,0,none⟩)):=by
 have h:laidMet Tryd.prog [("math/bits.deBruijn32tab",Go.Proofs.YteaclamkacmhmaaDoor.Rows.laid_math_bits_deBruijn32tab)] W:=h
 obtain ⟨_,⟨g',t,cs,fuel,p,q,hg,ht,hv,hd,_,_⟩,_⟩:=h
 obtain rfl:=Option.some.inj (gT.symm.trans hg)
 obtain rfl:=Option.some.inj (tT.symm.trans ht)
 obtain ⟨xs,m,_,hx,hl,hxl,hf⟩:=DataW.trod_array Tryd.underlying124 hd
 have hx1:xs.map (·.1)=tabB.map fun n=>DataW.lit (.int .u8 n):=by
  have:=(Prod.mk.inj hx).1
  exact (DataW.agg.inj this).symm
 have hlen:cs.toList.length=32:=hl.trans (by kernel_rfl)
 have cell:∀ j (hj:j<32),W.cell? ⟨0,j,none⟩=some (.int .u8 (tabB.getD j 0)):=fun j hj=>by
  have h1:=hf j hj
  have hjx:j<xs.length:=by omega
  rw [cz5,Nat.mul_one,List.getElem?_eq_getElem hjx] at h1
  obtain ⟨n,e1,e2,_⟩:=DataW.trod_int Tryd.underlying5 h1
  have hj2:j<cs.toList.length:=by omega
  rw [List.take_one,List.head?_drop,List.getElem?_eq_getElem hj2] at e1
  have e1:cs.toList[j] = .int .u8 n:=by simpa using e1
  have e3:(xs.map (·.1))[j]? = some (.lit (.int .u8 n)):=by rw [List.getElem?_map,List.getElem?_eq_getElem hjx,e2]; rfl
  rw [hx1,List.getElem?_map] at e3
  have hjt:j<tabB.length:=hj
  rw [List.getElem?_eq_getElem hjt] at e3
  have e4:tabB[j]=n:=by simpa using e3
  have:=World.var?_cell gT hv j
  rw [this,List.getD_eq_getElem?_getD,List.getElem?_eq_getElem hjt]
  have h5:cs[j]? = some cs.toList[j]:=by rw [← Array.getElem?_toList,List.getElem?_eq_getElem hj2]
  rw [h5,e1,← e4]
  rfl
 intro g cs' hg'
 unfold G at hg'
 split at hg'
 · rename_i e
   subst e
   cases hg'
   exact .imm _ _ (fun j=>.int .u8 (tabB.getD j 0)) rfl (fun _ h=>h) (fun j hj=>by rw [Nat.zero_add]; exact cell j (by simpa [tab,tabB] using hj)) (fun j hj=>by
    have hj:j<32:=by simpa [tab,tabB] using hj
    have:tab.getD j .dead = .lit (.int .u8 (tabB.getD j 0)):=by
     unfold tab
     rw [List.getD_eq_getElem?_getD,List.getElem?_map,List.getD_eq_getElem?_getD,List.getElem?_eq_getElem (show j<tabB.length from hj)]
     rfl
    rw [this]
    exact .lit _)
 · cases hg'
theorem door_met (os:Os) (args:Array Value):laidMetH Tryd.prog [("math/bits.deBruijn32tab",Go.Proofs.YteaclamkacmhmaaDoor.Rows.laid_math_bits_deBruijn32tab)] ((World.doorLaid Tryd.prog 600 os).forCall (fun _ _=>0) ⟨#[],args,[]⟩).memory :=
 laidMetH_of_parts3 (fuel:=8) (laidMet_of_run' 8 (by kernel_rfl) (by kernel_rfl)) (by kernel_rfl) (by kernel_rfl)
end Go.Tx


namespace Go.Tx
open Go Go.Am Go.Proofs Go.Seat
open Go.Sq (CE cel ces ida idv pid fX fiO OkRs OkR chkE)
def tdH (t:TE) (dv sq a b c:Int):List AObj:=[sbT t,.box [int dv,int sq],.box [int a,int b,int c]]
def tdS (t:TE) (dv sq a b c tm:Int) (s:ByteArray) (k:Nat):St:={ env:=slots 179 [(2,int tm),(4,str s),(5,.ptr 0 0),(6,.ptr 1 0),(8,.ptr 2 0),(11,int k)],H:=tdH t dv sq a b c }
def tdX (t:TE) (dv sq a b c tm:Int) (s:ByteArray):St:={ env:=slots 179 [(2,int tm),(4,str s),(5,.ptr 0 0),(6,.ptr 1 0),(8,.ptr 2 0)],H:=tdH t dv sq a b c }
def tdR (t:TE) (dv sq a b c:Int):St:={ env:=slots 179 [(10,bool true)],H:=tdH t dv sq a b c }
theorem tdl_t (t:TE) (dv sq a b c tm:Int) (s:ByteArray) (k:Nat) (x:CE) (hx:t.cells[k]? = some x) (hle:x.tm≥tm) (hk:(k:Int)<(t.cells.length:Int)) (h:True):RunL P G none 0 (loopAt P 6 0) (tdS t dv sq a b c tm s k) AEx.ret (tdR t dv sq a b c):=by
 have _:=h
 exact loop_exit [kv 30 (show Am.Sub (int (↑(List.length (Sq.encs (TE.cells t))):Int)) (int (↑(List.length (TE.cells t)):Int)) from (Sub.of_eq (by simp only [Go.Sq.encs_length]))),kt (show decide ((↑k:Int)<(↑(List.length (TE.cells t)):Int))=true from (decide_eq_true (by omega))),ko (Orc.elem (Sq.enc x)),kp (show (0:Int)≤(↑k:Int)∧(Sq.encs (TE.cells t))[Int.toNat (↑k:Int)]? = some (Sq.enc x) from (el_nat hx)),kt (show decide (CE.tm x≥tm)=true from (decide_eq_true (by omega)))] (others 179 [10]) 3 (by kernel_rfl)
theorem tdl_n (t:TE) (dv sq a b c tm:Int) (s:ByteArray) (k:Nat) (x:CE) (hl:t.cells.length≤40) (hx:t.cells[k]? = some x) (hle:¬ x.tm≥tm) (hk:(k:Int)<(t.cells.length:Int)) (ex:AEx) (s':St) (h:RunL P G none 0 (loopAt P 6 0) (St.mk (slots 179 [(2,int tm),(4,str s),(5,AV.ptr 0 0),(6,AV.ptr 1 0),(8,AV.ptr 2 0),(11,int (↑(k+1):Int))]) [AObj.box [AV.sl 9 false (Sq.encs (TE.cells t)),AV.sl 11 false (encs (TE.marks t))],AObj.box [int dv,int sq],AObj.box [int a,int b,int c]] []) ex s'):RunL P G none 0 (loopAt P 6 0) (tdS t dv sq a b c tm s k) ex s':=by
 exact loop_next [kv 30 (show Am.Sub (int (↑(List.length (Sq.encs (TE.cells t))):Int)) (int (↑(List.length (TE.cells t)):Int)) from (Sub.of_eq (by simp only [Go.Sq.encs_length]))),kt (show decide ((↑k:Int)<(↑(List.length (TE.cells t)):Int))=true from (decide_eq_true (by omega))),ko (Orc.elem (Sq.enc x)),kp (show (0:Int)≤(↑k:Int)∧(Sq.encs (TE.cells t))[Int.toNat (↑k:Int)]? = some (Sq.enc x) from (el_nat hx)),kf (show decide (CE.tm x≥tm)=false from (decide_eq_false (by omega))),kv 33 (show Am.Sub (int (IntKind.wrap IntKind.i64 ((↑k:Int)+1))) (int (↑(k+1):Int)) from (Sub.of_wrap (by omega) (by omega) (by omega)))] (others 179 [2,4,5,6,8,11]) 3 h (by kernel_rfl)
theorem tdl_e (t:TE) (dv sq a b c tm:Int) (s:ByteArray) (k:Nat) (hk:¬ (k:Int)<(t.cells.length:Int)) (h:True):RunL P G none 0 (loopAt P 6 0) (tdS t dv sq a b c tm s k) (AEx.exit 0) (tdX t dv sq a b c tm s):=by
 have _:=h
 exact loop_exit [kv 30 (show Am.Sub (int (↑(List.length (Sq.encs (TE.cells t))):Int)) (int (↑(List.length (TE.cells t)):Int)) from (Sub.of_eq (by simp only [Go.Sq.encs_length]))),kf (show decide ((↑k:Int)<(↑(List.length (TE.cells t)):Int))=false from (decide_eq_false (by omega)))] (others 179 [2,4,5,6,8]) 3 (by kernel_rfl)
theorem td_0 (t:TE) (dv sq a b c tm:Int) (s:ByteArray) (hf:CallC P G 12 [txt t] [] (.ret (bool false)) []) (h:True):CallC P G 6 [txt t,dta dv sq,int tm,ida a b c,str s] [] (AOut.ret (Am.bool true)) []:=by
 have _:=h
 exact callC_of [kc [] (@Go.Tx.sane_w (trivial)),kf (Eq.refl false),kc [] (@hf ),kt (Eq.refl true),kt (Eq.refl true)] (by kernel_rfl)
theorem td_00 (t:TE) (dv sq a b c tm:Int) (s:ByteArray) (hs:(s.size:Int) > 64) (hf:CallC P G 12 [txt t] [] (.ret (bool true)) []) (h:True):CallC P G 6 [txt t,dta dv sq,int tm,ida a b c,str s] [] (AOut.ret (Am.bool true)) []:=by
 have _:=h
 exact callC_of [kc [] (@Go.Tx.sane_w (trivial)),kf (Eq.refl false),kc [] (@hf ),kf (Eq.refl false),kt (show decide ((↑(ByteArray.size s):Int) > (64:Int))=true from (decide_eq_true (by omega)))] (by kernel_rfl)
theorem td_1 (t:TE) (dv sq a b c tm:Int) (s:ByteArray) (hs:¬ (s.size:Int) > 64) (hf:CallC P G 12 [txt t] [] (.ret (bool true)) []) (hL:RunL P G none 0 (loopAt P 6 0) (tdS t dv sq a b c tm s 0) .ret (tdR t dv sq a b c)) (h:True):CallC P G 6 [txt t,dta dv sq,int tm,ida a b c,str s] [] (AOut.ret (Am.bool true)) []:=by
 have _:=h
 exact callC_of [kc [] (@Go.Tx.sane_w (trivial)),kf (Eq.refl false),kc [] (@hf ),kf (Eq.refl false),kf (show decide ((↑(ByteArray.size s):Int) > (64:Int))=false from (decide_eq_false (by omega))),kl [0,1,3,7,9,10,12,13,14,15,16,17,18,19,20,21,22,23,24,25,26,27,28,29,30,31,32,33,34,35,36,37,38,39,40,41,42,43,44,45,46,47,48,49,50,51,52,53,54,55,56,57,58,59,60,61,62,63,64,65,66,67,68,69,70,71,72,73,74,75,76,77,78,79,80,81,82,83,84,85,86,87,88,89,90,91,92,93,94,95,96,97,98,99,100,101,102,103,104,105,106,107,108,109,110,111,112,113,114,115,116,117,118,119,120,121,122,123,124,125,126,127,128,129,130,131,132,133,134,135,136,137,138,139,140,141,142,143,144,145,146,147,148,149,150,151,152,153,154,155,156,157,158,159,160,161,162,163,164,165,166,167,168,169,170,171,172,173,174,175,176,177,178] 3 (@hL )] (by kernel_rfl)
theorem td_2 (t:TE) (dv sq a b c tm:Int) (s:ByteArray) (e:Int) (he:e≠0) (hs:¬ (s.size:Int) > 64) (hf:CallC P G 12 [txt t] [] (.ret (bool true)) []) (hL:RunL P G none 0 (loopAt P 6 0) (tdS t dv sq a b c tm s 0) (.exit 0) (tdX t dv sq a b c tm s)) (hT:CallC P G 28 [txt t,dta dv sq,int tm,ida a b c,str s] [] (.ret (.tup [.agg [ces [],mks []],int e])) []) (h:True):CallC P G 6 [txt t,dta dv sq,int tm,ida a b c,str s] [] (AOut.ret (Am.bool true)) []:=by
 have _:=h
 exact callC_of [kc [] (@Go.Tx.sane_w (trivial)),kf (Eq.refl false),kc [] (@hf ),kf (Eq.refl false),kf (show decide ((↑(ByteArray.size s):Int) > (64:Int))=false from (decide_eq_false (by omega))),kl [0,1,3,7,9,10,12,13,14,15,16,17,18,19,20,21,22,23,24,25,26,27,28,29,30,31,32,33,34,35,36,37,38,39,40,41,42,43,44,45,46,47,48,49,50,51,52,53,54,55,56,57,58,59,60,61,62,63,64,65,66,67,68,69,70,71,72,73,74,75,76,77,78,79,80,81,82,83,84,85,86,87,88,89,90,91,92,93,94,95,96,97,98,99,100,101,102,103,104,105,106,107,108,109,110,111,112,113,114,115,116,117,118,119,120,121,122,123,124,125,126,127,128,129,130,131,132,133,134,135,136,137,138,139,140,141,142,143,144,145,146,147,148,149,150,151,152,153,154,155,156,157,158,159,160,161,162,163,164,165,166,167,168,169,170,171,172,173,174,175,176,177,178] 3 (@hL ),kc [] (@hT ),kt (show (e != 0)=true from (congrArg Bool.not (decide_eq_false (by omega))))] (by kernel_rfl)
def teH (t:TE) (r:List CE) (dv sq a b c:Int):List AObj:=[sbT t,.box [int dv,int sq],.box [int a,int b,int c],.box [ces r,mks t.marks]]
def teS (t:TE) (r:List CE) (dv sq a b c tm:Int) (s:ByteArray) (at_ k:Nat):St:={ env:=slots 179 [(2,int tm),(4,str s),(5,.ptr 0 0),(6,.ptr 1 0),(12,.ptr 3 0),(14,int at_),(15,int k)],H:=teH t r dv sq a b c }
def teX (t:TE) (r:List CE) (dv sq a b c:Int) (s:ByteArray) (at_:Nat):St:={ env:=slots 179 [(4,str s),(5,.ptr 0 0),(12,.ptr 3 0),(14,int at_)],H:=teH t r dv sq a b c }
theorem tel_e (t:TE) (r:List CE) (dv sq a b c tm:Int) (s:ByteArray) (at_ k:Nat) (hk:¬ (k:Int)<(s.size:Int)) (h:True):RunL P G none 0 (loopAt P 6 1) (teS t r dv sq a b c tm s at_ k) (AEx.exit 2) (teX t r dv sq a b c s at_):=by
 have _:=h
 exact loop_exit [kf (show decide ((↑k:Int)<(↑(ByteArray.size s):Int))=false from (decide_eq_false (by omega)))] (others 179 [4,5,12,14]) 4 (by kernel_rfl)
theorem tel_n (t:TE) (r:List CE) (dv sq a b c tm:Int) (s:ByteArray) (at_ k:Nat) (ad as_ aa:Int) (v:ByteArray) (hv:v=s.extract k (k+1)) (hat:at_≤1000) (hs:s.size≤64) (hr:((at_:Int)+(k:Int))<(r.length:Int)) (hk:(k:Int)<(s.size:Int)) (hy:r[at_+k]? = some ⟨dv,sq,k,ad,as_,aa,tm,v,false⟩) (ex:AEx) (s':St) (h:((((ByteArray.toList v == ByteArray.toList (ByteArray.extract s (Int.toNat (↑k:Int)) (Int.toNat (↑(k+1):Int))))=true)→((((dv == dv && (sq == sq && (↑k:Int) == (↑k:Int)))=true)→RunL P G none 0 (loopAt P 6 1) (St.mk (slots 179 [(2,int tm),(4,str s),(5,AV.ptr 0 0),(6,AV.ptr 1 0),(12,AV.ptr 3 0),(14,int (↑at_:Int)),(15,int (↑(k+1):Int))]) [AObj.box [AV.sl 9 false (Sq.encs (TE.cells t)),AV.sl 11 false (encs (TE.marks t))],AObj.box [int dv,int sq],AObj.box [int a,int b,int c],AObj.box [AV.sl 9 false (Sq.encs r),AV.sl 11 false (encs (TE.marks t))]] []) ex s')∧(((dv == dv && (sq == sq && (↑k:Int) == (↑k:Int)))=false)→(AEx.ret=ex)∧(St.mk (slots 179 []) [AObj.box [AV.sl 9 false (Sq.encs (TE.cells t)),AV.sl 11 false (encs (TE.marks t))],AObj.box [int dv,int sq],AObj.box [int a,int b,int c],AObj.box [AV.sl 9 false (Sq.encs r),AV.sl 11 false (encs (TE.marks t))]] []=s'))))∧(((ByteArray.toList v == ByteArray.toList (ByteArray.extract s (Int.toNat (↑k:Int)) (Int.toNat (↑(k+1):Int))))=false)→(AEx.ret=ex)∧(St.mk (slots 179 []) [AObj.box [AV.sl 9 false (Sq.encs (TE.cells t)),AV.sl 11 false (encs (TE.marks t))],AObj.box [int dv,int sq],AObj.box [int a,int b,int c],AObj.box [AV.sl 9 false (Sq.encs r),AV.sl 11 false (encs (TE.marks t))]] []=s')))):RunL P G none 0 (loopAt P 6 1) (teS t r dv sq a b c tm s at_ k) ex s':=by
 have hz0:decide ((↑k:Int)<(↑(ByteArray.size s):Int))=true:=(decide_eq_true (by omega))
 have hz1:Am.Sub (int (IntKind.wrap IntKind.i64 ((↑at_:Int)+(↑k:Int)))) (int (↑(at_+k):Int)):=(Sub.of_wrap (by omega) (by omega) (by omega))
 have hz2:(0:Int)≤(↑(at_+k):Int)∧(Sq.encs r)[Int.toNat (↑(at_+k):Int)]? = some (Sq.enc (CE.mk dv sq (↑k:Int) ad as_ aa tm v false)):=(el_nat hy)
 have hz3:Am.Sub (int (IntKind.wrap IntKind.i64 ((↑k:Int)+1))) (int (↑(k+1):Int)):=(Sub.of_wrap (by omega) (by omega) (by omega))
 have hz4:(0:Int)≤(↑k:Int)∧(↑k:Int)≤(↑(k+1):Int)∧(↑(k+1):Int)≤(↑(ByteArray.size s):Int):=(by omega)
 rcases Bool.eq_false_or_eq_true ((ByteArray.toList v == ByteArray.toList (ByteArray.extract s (Int.toNat (↑k:Int)) (Int.toNat (↑(k+1):Int))))) with c2 | c2
 · have h:=h.1 c2
   have hz5:(!ByteArray.toList v == ByteArray.toList (ByteArray.extract s (Int.toNat (↑k:Int)) (Int.toNat (↑(k+1):Int))))=false:=(congrArg Bool.not (c2))
   rcases Bool.eq_false_or_eq_true ((dv == dv && (sq == sq && (↑k:Int) == (↑k:Int)))) with c3 | c3
   · have h:=h.1 c3
     exact loop_next [kt hz0,kv 129 hz1,ko (Orc.elem (Sq.enc (CE.mk dv sq (↑k:Int) ad as_ aa tm v false))),kp hz2,kv 137 hz3,kp hz4,kf hz5,kf (Eq.refl false),kf (show (!(dv == dv && (sq == sq && (↑k:Int) == (↑k:Int))))=false from (congrArg Bool.not (c3))),kf (show (tm != tm)=false from (congrArg Bool.not (decide_eq_true (by omega)))),kv 124 hz3] (others 179 [2,4,5,6,12,14,15]) 4 h (by kernel_rfl)
   · have h:=h.2 c3
     obtain ⟨eX,eS⟩:=h
     exact RunL.to ((show RunL P G none 0 (loopAt P 6 1) (teS t r dv sq a b c tm s at_ k) AEx.ret (St.mk (slots 179 []) [AObj.box [AV.sl 9 false (Sq.encs (TE.cells t)),AV.sl 11 false (encs (TE.marks t))],AObj.box [int dv,int sq],AObj.box [int a,int b,int c],AObj.box [AV.sl 9 false (Sq.encs r),AV.sl 11 false (encs (TE.marks t))]] []) from loop_exit [kt hz0,kv 129 hz1,ko (Orc.elem (Sq.enc (CE.mk dv sq (↑k:Int) ad as_ aa tm v false))),kp hz2,kv 137 hz3,kp hz4,kf hz5,kf (Eq.refl false),kt (show (!(dv == dv && (sq == sq && (↑k:Int) == (↑k:Int))))=true from (congrArg Bool.not (c3))),kt (Eq.refl true)] (others 179 []) 4 (by kernel_rfl))) eX (SubS.of_eq eS)
 · have h:=h.2 c2
   obtain ⟨eX,eS⟩:=h
   exact RunL.to ((show RunL P G none 0 (loopAt P 6 1) (teS t r dv sq a b c tm s at_ k) AEx.ret (St.mk (slots 179 []) [AObj.box [AV.sl 9 false (Sq.encs (TE.cells t)),AV.sl 11 false (encs (TE.marks t))],AObj.box [int dv,int sq],AObj.box [int a,int b,int c],AObj.box [AV.sl 9 false (Sq.encs r),AV.sl 11 false (encs (TE.marks t))]] []) from loop_exit [kt hz0,kv 129 hz1,ko (Orc.elem (Sq.enc (CE.mk dv sq (↑k:Int) ad as_ aa tm v false))),kp hz2,kv 137 hz3,kp hz4,kt (show (!ByteArray.toList v == ByteArray.toList (ByteArray.extract s (Int.toNat (↑k:Int)) (Int.toNat (↑(k+1):Int))))=true from (congrArg Bool.not (c2))),kt (Eq.refl true),kt (Eq.refl true),kt (Eq.refl true)] (others 179 []) 4 (by kernel_rfl))) eX (SubS.of_eq eS)
end Go.Tx


namespace Go.Tx
open Go Go.Am Go.Proofs Go.Seat
open Go.Sq (CE cel ces ida idv pid fX fiO OkRs OkR chkE)
theorem td_3 (t:TE) (r:List CE) (dv sq a b c tm:Int) (s:ByteArray) (at_:Nat) (s1 s2 s3:ByteArray) (hat:(at_:Int)≤(t.cells.length:Int)) (hl:t.cells.length≤40) (hrl:(r.length:Int)=(t.cells.length:Int)+(s.size:Int)) (hz:s2.size+s.size+s3.size≤1000000) (hs:¬ (s.size:Int) > 64) (hf:CallC P G 12 [txt t] [] (.ret (bool true)) []) (hL:RunL P G none 0 (loopAt P 6 0) (tdS t dv sq a b c tm s 0) (.exit 0) (tdX t dv sq a b c tm s)) (hT:CallC P G 28 [txt t,dta dv sq,int tm,ida a b c,str s] [] (.ret (.tup [.agg [ces r,mks t.marks],int 0])) []) (hi:CallC P G 29 [ces t.cells,ida a b c] [] (.ret (int ((at_:Int) - 1))) []) (h1:CallC P G 30 [ces (List.take at_ r),ces (List.take at_ t.cells)] [] (.ret (bool true)) []) (h2:CallC P G 30 [ces (r.drop (at_+s.size)),ces (t.cells.drop at_)] [] (.ret (bool true)) []) (hM:RunL P G none 0 (loopAt P 6 1) (teS t r dv sq a b c tm s at_ 0) (.exit 2) (teX t r dv sq a b c s at_)) (g1:CallC P G 19 [.agg [ces r,mks t.marks]] [] (.ret (str s1)) []) (g2:CallC P G 19 [.agg [ces (t.cells.take at_),nilS]] [] (.ret (str s2)) []) (g3:CallC P G 19 [.agg [ces (t.cells.drop at_),nilS]] [] (.ret (str s3)) []) (o:Bool) (h:(((0:Int)≤(0:Int)∧(0:Int)≤(↑at_:Int)∧(↑at_:Int)≤(↑(List.length (Sq.encs r)):Int))∧(((0:Int)≤(0:Int)∧(0:Int)≤(↑at_:Int)∧(↑at_:Int)≤(↑(List.length (Sq.encs (TE.cells t))):Int))∧(((0:Int)≤(↑(at_+ByteArray.size s):Int)∧(↑(at_+ByteArray.size s):Int)≤(↑(List.length (Sq.encs r)):Int)∧(↑(List.length (Sq.encs r)):Int)≤(↑(List.length (Sq.encs r)):Int))∧(((↑(ByteArray.size (s2++s)+ByteArray.size s3):Int)≤(9223372036854775807:Int))∧(ByteArray.toList s1 == ByteArray.toList (s2++s++s3))=(o)))))):CallC P G 6 [txt t,dta dv sq,int tm,ida a b c,str s] [] (AOut.ret (Am.bool o)) []:=by
 have hz9:Am.Sub (int (↑(List.length (Sq.encs (TE.cells t))):Int)) (int (↑(List.length (TE.cells t)):Int)):=(Sub.of_eq (by simp only [Go.Sq.encs_length,Int.toNat_natCast]))
 obtain ⟨o4,h⟩:=h
 obtain ⟨o5,h⟩:=h
 have hz14:Am.Sub (AV.sl 9 false (List.drop 0 (List.take (Int.toNat (↑at_:Int)) (Sq.encs (TE.cells t))))) (AV.sl 9 false (Sq.encs (List.take at_ (TE.cells t)))):=(Sub.of_eq (by simp only [Go.Sq.encs_take,Int.toNat_natCast,List.drop_zero]))
 obtain ⟨o6,h⟩:=h
 have hz18:Am.Sub (AV.sl 9 false (List.drop (Int.toNat (↑at_:Int)) (List.take (Int.toNat (↑(List.length (Sq.encs (TE.cells t))):Int)) (Sq.encs (TE.cells t))))) (AV.sl 9 false (Sq.encs (List.drop at_ (TE.cells t)))):=(Sub.of_eq (by simp only [Go.Sq.encs_length,Go.Sq.encs_take,Go.Sq.encs_drop,Int.toNat_natCast,List.take_length]))
 have hz19:(0:Int)≤(↑at_:Int)∧(↑at_:Int)≤(↑(List.length (Sq.encs (TE.cells t))):Int)∧(↑(List.length (Sq.encs (TE.cells t))):Int)≤(↑(List.length (Sq.encs (TE.cells t))):Int):=(by omega)
 have hz21:Am.Sub (int (↑(List.length (encs (TE.marks t))):Int)) (int (↑(List.length (TE.marks t)):Int)):=(Sub.of_eq (by simp only [Go.Tx.encs_length,Int.toNat_natCast]))
 obtain ⟨o8,h⟩:=h
 have e1:=h
 exact callC_out (Sub.bool_eq e1) [kc [] (@Go.Tx.sane_w (trivial)),kf (Eq.refl false),kc [] (@hf ),kf (Eq.refl false),kf (show decide ((↑(ByteArray.size s):Int) > (64:Int))=false from (decide_eq_false (by omega))),kl [0,1,3,7,9,10,12,13,14,15,16,17,18,19,20,21,22,23,24,25,26,27,28,29,30,31,32,33,34,35,36,37,38,39,40,41,42,43,44,45,46,47,48,49,50,51,52,53,54,55,56,57,58,59,60,61,62,63,64,65,66,67,68,69,70,71,72,73,74,75,76,77,78,79,80,81,82,83,84,85,86,87,88,89,90,91,92,93,94,95,96,97,98,99,100,101,102,103,104,105,106,107,108,109,110,111,112,113,114,115,116,117,118,119,120,121,122,123,124,125,126,127,128,129,130,131,132,133,134,135,136,137,138,139,140,141,142,143,144,145,146,147,148,149,150,151,152,153,154,155,156,157,158,159,160,161,162,163,164,165,166,167,168,169,170,171,172,173,174,175,176,177,178] 3 (@hL ),kc [] (@hT ),kf (Eq.refl false),kc [] (@hi ),kv 65 (show Am.Sub (int (IntKind.wrap IntKind.i64 ((↑at_:Int) - 1+1))) (int ((↑at_:Int) - 1+1)) from (Sub.of_wrap (by omega) (by omega) rfl)),kv 14 (show Am.Sub (int ((↑at_:Int) - 1+1)) (int (↑at_:Int)) from (Sub.of_eq (by simp only [Int.sub_add_cancel,Int.toNat_natCast]))),kv 68 (show Am.Sub (int (↑(List.length (Sq.encs r)):Int)) (int (↑(List.length r):Int)) from (Sub.of_eq (by simp only [Go.Sq.encs_length,Int.toNat_natCast]))),kv 71 hz9,kv 74 (show Am.Sub (int (IntKind.wrap IntKind.i64 ((↑(List.length (TE.cells t)):Int)+(↑(ByteArray.size s):Int)))) (int (↑(List.length (TE.cells t)+ByteArray.size s):Int)) from (Sub.of_wrap (by omega) (by omega) (by omega))),kf (show ((↑(List.length r):Int) != (↑(List.length (TE.cells t)+ByteArray.size s):Int))=false from (congrArg Bool.not (decide_eq_true (by omega)))),kv 80 hz9,kf (show decide ((↑at_:Int) > (↑(List.length (TE.cells t)):Int))=false from (decide_eq_false (by omega))),kv 87 (show Am.Sub (AV.sl 9 false (List.drop 0 (List.take (Int.toNat (↑at_:Int)) (Sq.encs r)))) (AV.sl 9 false (Sq.encs (List.take at_ r))) from (Sub.of_eq (by simp only [Go.Sq.encs_take,Int.toNat_natCast,List.drop_zero]))),kp o4,kv 91 hz14,kp o5,kc [] (@h1 ),kf (Eq.refl false),kv 101 (show Am.Sub (int (IntKind.wrap IntKind.i64 ((↑at_:Int)+(↑(ByteArray.size s):Int)))) (int (↑(at_+ByteArray.size s):Int)) from (Sub.of_wrap (by omega) (by omega) (by omega))),kv 102 (show Am.Sub (AV.sl 9 false (List.drop (Int.toNat (↑(at_+ByteArray.size s):Int)) (List.take (Int.toNat (↑(List.length (Sq.encs r)):Int)) (Sq.encs r)))) (AV.sl 9 false (Sq.encs (List.drop (at_+ByteArray.size s) r))) from (Sub.of_eq (by simp only [Go.Sq.encs_length,Go.Sq.encs_take,Go.Sq.encs_drop,Int.toNat_natCast,List.take_length]))),kp o6,kv 106 hz18,kp hz19,kc [] (@h2 ),kf (Eq.refl false),kv 113 hz21,kv 116 hz21,kf (show ((↑(List.length (TE.marks t)):Int) != (↑(List.length (TE.marks t)):Int))=false from (congrArg Bool.not (decide_eq_true (by omega)))),kl [8,13,42,43,44,45,46,47,48,49,50,51,52,61,62,63,64,65,66,67,68,69,70,71,72,73,74,75,76,77,78,79,80,81,82,83,84,85,86,87,88,89,90,91,92,93,94,95,96,97,98,99,100,101,102,103,104,105,106,107,108,109,110,111,112,113,114,115,116,117,118] 4 (@hM ),kc [] (@g1 ),kv 166 hz14,kp (show (0:Int)≤(0:Int)∧(0:Int)≤(↑at_:Int)∧(↑at_:Int)≤(↑(List.length (Sq.encs (TE.cells t))):Int) from (by omega)),kc [] (@g2 ),kp (show (↑(ByteArray.size s2+ByteArray.size s):Int)≤(9223372036854775807:Int) from (by omega)),kv 174 hz18,kp hz19,kc [] (@g3 ),kp o8] (by kernel_rfl)
end Go.Tx


namespace Go.Tx
open Go Go.Am Go.Proofs Go.Seat
open Go.Sq (CE cel ces ida idv pid fX fiO OkRs OkR chkE)
end Go.Tx


namespace Go.Tx
open Go Go.Am Go.Proofs Go.Seat
open Go.Sq (CE cel ces ida idv pid fX fiO OkRs OkR chkE insE insV formsB Ok Ids lvl all clash More ers goneAt)
def tyL (dv sq tm:Int) (s:ByteArray):Nat→Nat→Sq.ID→List CE
 | 0,_,_=>[]
 | n+1,k,i=>tyC dv sq tm k i s::tyL dv sq tm s n (k+1) (dv,sq,(k:Int))
theorem ins_iff {l:List CE} {c:CE} (hg:c.gn=false):insE l c=0↔chkE l=0∧formsB (l++[c])=true:=by
 rcases Sq.ins_cases l c with ⟨h1,h2,h3,_⟩ | ⟨h1,_⟩
 · exact ⟨fun _=>⟨h2,h3⟩,fun _=>h1⟩
 · refine ⟨fun h=>absurd h h1,fun ⟨h2,h3⟩=>?_⟩
   unfold Sq.insE Sq.ordE
   simp [h2,hg,h3]
theorem ins_all {l:List CE} {c:CE} (h:insE l c=0):insV l c=all (l++[c]):=by
 rcases Sq.ins_cases l c with ⟨_,_,_,h4⟩ | ⟨h1,_⟩
 · exact h4
 · exact absurd h h1
theorem lvl_up {l m:List CE} (h:∀ x∈l,x∈m):∀ {n:Nat} {c:CE},lvl l n c→lvl m n c
 | 0,_,k=>k
 | n+1,_,⟨p,hp,e,k⟩=>⟨p,h p hp,e,lvl_up h k⟩
theorem forms_up {l l':List CE} {c:CE} (h:More l c) (h':formsB l'=true) (hs:∀ x∈l,x∈l') (hc:∀ y∈l',y∉l→clash c y=false):formsB (l'++[c])=true:=by
 obtain ⟨o1,o2⟩:=Sq.forms_iff.1 h'
 have hm:=h.okm
 have cl:∀ y∈l',clash c y=false:=fun y hy=>by
  by_cases hyl:y∈l
  · exact (List.pairwise_append.1 hm.apart).2.2 y hyl c (by simp)
  · exact hc y hy hyl
 refine Sq.forms_iff.2 ⟨⟨fun x hx=>?_,?_⟩,fun x hx=>?_⟩
 · rcases List.mem_append.1 hx with hx | hx
   · exact o1.valid x hx
   · exact hm.valid x (List.mem_append_right _ hx)
 · refine List.pairwise_append.2 ⟨o1.apart,List.pairwise_singleton _ _,fun a ha b hb=>?_⟩
   rw [List.mem_singleton.1 hb]
   exact cl a ha
 · rcases List.mem_append.1 hx with hx | hx
   · obtain ⟨n,hn⟩:=o2 x hx
     exact ⟨n,lvl_up (fun y hy=>List.mem_append_left _ hy) hn⟩
   · rw [List.mem_singleton.1 hx]
     rcases h.parent with e | ⟨p,hp,e⟩
     · exact ⟨0,e⟩
     · obtain ⟨n,hn⟩:=o2 p (hs p hp)
       exact ⟨n+1,p,List.mem_append_left _ (hs p hp),e,lvl_up (fun y hy=>List.mem_append_left _ hy) hn⟩
theorem ty_up {dv sq tm:Int} {s:ByteArray}:∀ {n k:Nat} {i:Sq.ID} {l l':List CE},chkE l=0→(tyN dv sq tm s n k i l).2=0→chkE l'=0→(∀ x∈l,x∈l')→(∀ c∈tyL dv sq tm s n k i,∀ y∈l',y∉l→clash c y=false) →
 tyN dv sq tm s n k i l'=(all (l'++tyL dv sq tm s n k i),0)∧formsB (l'++tyL dv sq tm s n k i)=true
 | 0,k,i,l,l',_,_,h',_,_=>by
  obtain ⟨f1,f2⟩:=Sq.chk_iff.1 h'
  refine ⟨?_,by simpa [tyL] using f1⟩
  simp [tyN,tyL,f2]
 | n+1,k,i,l,l',h,ht,h',hs,hc=>by
  rw [tyN] at ht
  split at ht
  · rename_i hne
    exact absurd ht hne
  · rename_i h0
    have h0:insE l (tyC dv sq tm k i s)=0:=by simpa using h0
    obtain ⟨_,f1⟩:=(ins_iff (c:=tyC dv sq tm k i s) rfl).1 h0
    have hM:More l (tyC dv sq tm k i s):=⟨(Sq.chk_iff.1 h).1,f1⟩
    have f2:=forms_up hM (Sq.chk_iff.1 h').1 hs (hc _ (List.mem_cons_self ..))
    have h1:=(ins_iff (l:=l') (c:=tyC dv sq tm k i s) rfl).2 ⟨h',f2⟩
    rw [ins_all h0] at ht
    have mem1:∀ {x},x∈all (l++[tyC dv sq tm k i s])↔x∈l∨x=tyC dv sq tm k i s:=fun {x}=>by rw [(Sq.all_is f1).mem_iff]; simp
    have mem2:∀ {x},x∈all (l'++[tyC dv sq tm k i s])↔x∈l'∨x=tyC dv sq tm k i s:=fun {x}=>by rw [(Sq.all_is f2).mem_iff]; simp
    obtain ⟨a1,a2⟩:=ty_up (l':=all (l'++[tyC dv sq tm k i s])) (Sq.ord_ord f1).2.2 ht (Sq.ord_ord f2).2.2 (fun x hx=>mem2.2 ((mem1.1 hx).imp (hs x) id)) (fun c hcm y hy hn=>by
     rcases mem2.1 hy with hy | hy
     · exact hc c (List.mem_cons_of_mem _ hcm) y hy fun hyl=>hn (mem1.2 (.inl hyl))
     · exact absurd (mem1.2 (.inr hy)) hn)
    have hp:(all (l'++[tyC dv sq tm k i s])++tyL dv sq tm s n (k+1) (dv,sq,(k:Int))).Perm (l'++tyL dv sq tm s (n+1) k i):=by
     have:=(Sq.all_is f2).append_right (tyL dv sq tm s n (k+1) (dv,sq,(k:Int)))
     rw [List.append_assoc] at this
     exact this
    have f3:formsB (l'++tyL dv sq tm s (n+1) k i)=true:=by rw [← Sq.forms_perm hp]; exact a2
    refine ⟨?_,f3⟩
    rw [tyN,if_neg (by simpa using h1),ins_all h1,a1,Sq.all_perm (Sq.forms_iff.1 a2).1 hp]
theorem ty_is {dv sq tm:Int} {s:ByteArray} {n k:Nat} {i:Sq.ID} {l:List CE} (h:chkE l=0) (ht:(tyN dv sq tm s n k i l).2=0):tyN dv sq tm s n k i l=(all (l++tyL dv sq tm s n k i),0)∧formsB (l++tyL dv sq tm s n k i)=true :=
 ty_up h ht h (fun _ hx=>hx) fun _ _ _ hy hn=>absurd hy hn
def cutF (a b c:Int):Nat→Nat→CE→CE
 | 0,_,x=>x
 | n+1,k,x=>cutF a b c n (k+1) (ers (a,b,wr c k) x)
def CutOk (a b c:Int) (n k:Nat) (l:List CE):Prop:=∀ j,j<n→∃ x∈l,x.id=(a,b,wr c (k+j))
theorem isMk_iff {l:List CE} {m:MK}:isMk l m=true↔(∃ x∈l,x.id=m.frm)∧(∃ x∈l,x.id=m.upto)∧(Vec.isDotB (m.dv,m.sq) && decide (m.tm≥1) && decide (m.tm≤1099511627776) && decide (m.st≥0) && decide (m.st<16))=true:=by
 have key:∀ i j k:Int,(fX (pid i j k) l).isSome=true↔∃ x∈l,x.id=(i,j,k):=fun i j k=>by
  constructor
  · intro h
    obtain ⟨m,hm⟩:=Option.isSome_iff_exists.1 h
    obtain ⟨x,hx,e⟩:=Sq.fX_some hm
    exact ⟨x,List.mem_of_getElem? hx,e⟩
  · rintro ⟨x,hx,e⟩
    obtain ⟨m,hm⟩:=Sq.fX_mem hx e
    rw [hm]; rfl
 unfold isMk MK.frm MK.upto
 rw [← key,← key]
 simp only [Bool.and_eq_true]
 constructor
 · rintro ⟨⟨⟨⟨⟨⟨h1,h2⟩,h3⟩,h4⟩,h5⟩,h6⟩,h7⟩
   exact ⟨h1,h2,⟨⟨⟨h3,h4⟩,h5⟩,h6⟩,h7⟩
 · rintro ⟨h1,h2,⟨⟨⟨h3,h4⟩,h5⟩,h6⟩,h7⟩
   exact ⟨⟨⟨⟨⟨⟨h1,h2⟩,h3⟩,h4⟩,h5⟩,h6⟩,h7⟩
theorem isMk_up {l l':List CE} {m:MK} (h:∀ x∈l,∃ y∈l',y.id=x.id) (hm:isMk l m=true):isMk l' m=true:=by
 obtain ⟨⟨x,hx,e⟩,⟨x',hx',e'⟩,k⟩:=isMk_iff.1 hm
 obtain ⟨y,hy,e2⟩:=h x hx
 obtain ⟨y',hy',e2'⟩:=h x' hx'
 exact isMk_iff.2 ⟨⟨y,hy,e2.trans e⟩,⟨y',hy',e2'.trans e'⟩,k⟩
theorem OkV.up {l l':List CE} {v:List MK} (h:OkV l v) (hs:∀ x∈l,∃ y∈l',y.id=x.id):OkV l' v:=⟨fun m hm=>isMk_up hs (h.isM m hm),h.sorted,h.dots⟩
end Go.Tx


namespace Go.Tx
open Go Go.Am Go.Proofs Go.Seat
open Go.Sq (CE cel ces ida idv pid fX fiO OkRs OkR chkE insE insV formsB Ok Ids lvl all clash More ers goneAt)
def TL (e:ED):List CE:=tyL e.dv e.sq e.tm e.s e.s.size 0 (e.a,e.b,e.c)
def TyOk (t:TE) (e:ED):Prop:=(1≤e.s.size∧e.s.size≤64)∧(tyN e.dv e.sq e.tm e.s e.s.size 0 (e.a,e.b,e.c) t.cells).2=0
theorem Val.ids {t:TE} (h:Val t):Ids t.cells:=(Sq.forms_iff.1 (Sq.chk_iff.1 h.cells).1).1.ids
theorem tyL_one {dv sq tm:Int} {s:ByteArray}:∀ {n k:Nat} {i:Sq.ID},k+n=s.size→∀ x∈tyL dv sq tm s n k i,x.vl.size=1
 | 0,_,_,_,x,hx=>by cases hx
 | n+1,k,i,h,x,hx=>by
  rcases List.mem_cons.1 hx with rfl | hx
  · show (s.extract k (k+1)).size=1
    rw [ByteArray.size_extract]
    omega
  · exact tyL_one (by omega) x hx
theorem val_ty {t:TE} {e:ED} (hV:Val t) (h:TyOk t e):Val ⟨all (t.cells++TL e),t.marks⟩∧formsB (t.cells++TL e)=true:=by
 obtain ⟨a1,a2⟩:=ty_is hV.cells h.2
 refine ⟨⟨(Sq.ord_ord a2).2.2,fun c hc=>?_,hV.marks.up fun x hx=>⟨x,(Sq.all_is a2).mem_iff.2 (List.mem_append_left _ hx),rfl⟩⟩,a2⟩
 rcases List.mem_append.1 ((Sq.all_is a2).mem_iff.1 hc) with hc | hc
 · exact hV.one c hc
 · exact tyL_one (by omega) c hc
theorem CutOk.up {a b c:Int} {n k:Nat} {l l':List CE} (h:CutOk a b c n k l) (hs:∀ x∈l,∃ y∈l',y.id=x.id):CutOk a b c n k l':=fun j hj=>by
 obtain ⟨x,hx,e⟩:=h j hj
 obtain ⟨y,hy,e'⟩:=hs x hx
 exact ⟨y,hy,e'.trans e⟩
end Go.Tx


namespace Go.Tx
open Go Go.Am Go.Proofs Go.Seat
open Go.Sq (CE cel ces ida idv pid fX fiO OkRs OkR chkE)
end Go.Tx


namespace Go.Tx
open Go Go.Am Go.Proofs Go.Seat
abbrev OkA (t:TE):Prop:=OkT t∧SzC t.cells∧∀ x∈t.cells,InR x.tm
end Go.Tx


namespace Go.Tx
open Go Go.Am Go.Proofs Go.Seat
open Go.Sq (CE cel ces ida idv pid fX fiO OkRs OkR chkE insE insV formsB Ok Ids lvl all clash More ers goneAt)
end Go.Tx


namespace Go.Tx
open Go Go.Am Go.Proofs Go.Seat
open Go.Sq (CE cel ces ida idv pid fX fiO OkRs OkR chkE insE insV formsB Ok Ids lvl all clash More ers goneAt)
theorem sumS_one:∀ {l:List CE},(∀ c∈l,c.vl.size=1)→sumS l=l.length
 | [],_=>rfl
 | c::l,h=>by rw [sumS_cons,h c (by simp),sumS_one fun x hx=>h x (List.mem_cons_of_mem _ hx),List.length_cons]; omega
end Go.Tx


namespace Go.Tx
open Go Go.Am Go.Proofs Go.Seat
open Go.Sq (CE cel ces ida idv pid fX fiO OkRs OkR chkE insE insV formsB Ok Ids lvl all clash More ers goneAt)
theorem ty_place {dv sq tm:Int} {s:ByteArray}:∀ {n k:Nat} {i:Sq.ID} {l:List CE},chkE l=0→l.length+n≤999998→(∀ x∈l,x.after=i→x.tm<tm)→(tyN dv sq tm s (n+1) k i l).2=0 →
 ∃ p q,l=p++q∧(tyN dv sq tm s (n+1) k i l).1=p++(tyL dv sq tm s (n+1) k i++q)∧(i=(0,0,0)∧p=[]∨∃ m,fX (pid i.1 i.2.1 i.2.2) l=some m∧p.length=m+1):=by
 intro n
 induction n with
 | zero =>
  intro k i l h hl hs ht
  rw [tyN] at ht ⊢
  split at ht
  · rename_i hne; exact absurd ht hne
  · rename_i h0
    rw [if_neg h0]
    have h0:insE l (tyC dv sq tm k i s)=0:=by simpa using h0
    obtain ⟨_,f1⟩:=(ins_iff (c:=tyC dv sq tm k i s) rfl).1 h0
    have hM:More l (tyC dv sq tm k i s):=⟨(Sq.chk_iff.1 h).1,f1⟩
    obtain ⟨p,q,e1,e2,e3,e4⟩:=hM.keeps (by omega) (Sq.chk_iff.1 h).2
    refine ⟨p,q,e2,?_,e4 fun x hx ha=>?_⟩
    · rw [tyN,ins_all h0,e1]; rfl
    · have:x.tm<tm:=hs x hx ha
      have e:(tyC dv sq tm k i s).tm=tm:=rfl
      unfold Sq.gtB
      rw [e]
      simp; omega
 | succ n ih =>
  intro k i l h hl hs ht
  rw [tyN] at ht ⊢
  split at ht
  · rename_i hne; exact absurd ht hne
  · rename_i h0
    rw [if_neg h0]
    have h0:insE l (tyC dv sq tm k i s)=0:=by simpa using h0
    obtain ⟨_,f1⟩:=(ins_iff (c:=tyC dv sq tm k i s) rfl).1 h0
    have hM:More l (tyC dv sq tm k i s):=⟨(Sq.chk_iff.1 h).1,f1⟩
    obtain ⟨p,q,e1,e2,e3,e4⟩:=hM.keeps (by omega) (Sq.chk_iff.1 h).2
    have hlen:=Sq.insV_len l (tyC dv sq tm k i s)
    rw [ins_all h0] at ht hlen ⊢
    obtain ⟨p',q',a1,a2,a3⟩:=ih (k:=k+1) (i:=(dv,sq,(k:Int))) (l:=all (l++[tyC dv sq tm k i s])) (Sq.ord_ord f1).2.2 (by omega) (fun x hx ha=>absurd ha (hM.leaf x ((Sq.all_is f1).mem_iff.1 hx))) ht
    have hp:p'.length=p.length+1:=by
     rcases a3 with ⟨hz,_⟩ | ⟨m,hm,hpm⟩
     · exact absurd hz (hM.okm.id0 (x:=tyC dv sq tm k i s) (by simp))
     · have e3:fX (pid dv sq (k:Int)) (all (l++[tyC dv sq tm k i s]))=some p.length:=e3
       have hm:fX (pid dv sq (k:Int)) (all (l++[tyC dv sq tm k i s]))=some m:=hm
       rw [e3] at hm
       injection hm with hm
       omega
    have hpq:(p++[tyC dv sq tm k i s])++q=p'++q':=by rw [← a1,e1]; simp
    obtain ⟨b1,b2⟩:=List.append_inj hpq (by simp [hp])
    refine ⟨p,q,e2,?_,e4 fun x hx ha=>?_⟩
    · rw [a2,← b1,← b2]
      simp [tyL]
    · have:x.tm<tm:=hs x hx ha
      have e:(tyC dv sq tm k i s).tm=tm:=rfl
      unfold Sq.gtB
      rw [e]
      simp; omega
theorem tyL_len {dv sq tm:Int} {s:ByteArray}:∀ {n k:Nat} {i:Sq.ID},(tyL dv sq tm s n k i).length=n
 | 0,_,_=>rfl
 | n+1,k,i=>by rw [tyL,List.length_cons,tyL_len]
theorem tyL_get {dv sq tm:Int} {s:ByteArray}:∀ {n k:Nat} {i:Sq.ID} {j:Nat},j<n→∃ i',(tyL dv sq tm s n k i)[j]? = some (tyC dv sq tm (k+j) i' s)
 | n+1,k,i,0,_=>⟨i,rfl⟩
 | n+1,k,i,j+1,h=>by
  obtain ⟨i',e⟩:=tyL_get (dv:=dv) (sq:=sq) (tm:=tm) (s:=s) (n:=n) (k:=k+1) (i:=(dv,sq,(k:Int))) (j:=j) (by omega)
  refine ⟨i',?_⟩
  rw [tyL,List.getElem?_cons_succ,e,show k+1+j=k+(j+1) by omega]
theorem ba_ext {a b:ByteArray} (h:a.data.toList=b.data.toList):a=b:=by
 cases a; cases b
 simp only [ByteArray.mk.injEq]
 exact Array.ext' h
theorem catV_eq (s:ByteArray) (l:List CE):catV s l=s++catV ByteArray.empty l:=ba_ext (by rw [catV_data]; simp)
theorem catV_tyL {dv sq tm:Int} {s:ByteArray}:∀ {n k:Nat} {i:Sq.ID} {e:ByteArray},k+n≤s.size→catV e (tyL dv sq tm s n k i)=e++s.extract k (k+n)
 | 0,k,i,e,_=>ba_ext (by simp [tyL,catV])
 | n+1,k,i,e,h=>by
  rw [tyL,catV,if_neg (by simp [tyC]),catV_tyL (by omega)]
  refine ba_ext ?_
  have e2:(tyC dv sq tm k i s).vl=s.extract k (k+1):=rfl
  rw [e2]
  simp only [ByteArray.data_append,Array.toList_append,ByteArray.data_extract,Array.toList_extract,List.append_assoc,List.extract_eq_take_drop]
  rw [show k+1 - k=1 by omega,show k+1+n - (k+1)=n by omega,show k+(n+1) - k=1+n by omega,List.take_add,List.drop_drop]
theorem typ_y {t:TE} {dv sq tm:Int} {i:Sq.ID} {s:ByteArray} (h:(typR t dv sq tm i s).2=0):Val t∧(1≤s.size∧s.size≤64)∧(tyN dv sq tm s s.size 0 i t.cells).2=0∧typR t dv sq tm i s=(⟨(tyN dv sq tm s s.size 0 i t.cells).1,t.marks⟩,0):=by
 unfold typR at *
 split at h
 · rename_i hc; exact absurd h hc
 · rename_i hc
   split at h
   · cases h
   · rename_i hs
     split at h
     · rename_i ht
       refine ⟨chkT_iff.1 (by simpa using hc),by omega,ht,?_⟩
       rw [if_neg hc,if_neg hs,if_pos ht]
     · rename_i ht; exact absurd h ht
theorem typ_z {t:TE} {dv sq tm:Int} {i:Sq.ID} {s:ByteArray} (h:(typR t dv sq tm i s).2≠0):(typR t dv sq tm i s).1=zT:=by
 unfold typR at *
 split
 · rfl
 · rename_i hc
   rw [if_neg hc] at h
   split
   · rfl
   · rename_i hs
     rw [if_neg hs] at h
     split
     · rename_i ht
       rw [if_pos ht] at h
       exact absurd rfl h
     · rfl
end Go.Tx


namespace Go.Tx
open Go Go.Am Go.Proofs Go.Seat
open Go.Sq (CE cel ces ida idv pid fX fiO OkRs OkR chkE insE insV formsB Ok Ids lvl all clash More ers goneAt)
theorem tdl_loop (t:TE) (dv sq a b c tm:Int) (s:ByteArray) (hl:t.cells.length≤40):∀ n k,t.cells.length - k=n→k≤t.cells.length→(((t.cells.drop k).any fun x=>decide (x.tm≥tm))=true→RunL P G none 0 (loopAt P 6 0) (tdS t dv sq a b c tm s k) .ret (tdR t dv sq a b c))∧(((t.cells.drop k).any fun x=>decide (x.tm≥tm))=false→RunL P G none 0 (loopAt P 6 0) (tdS t dv sq a b c tm s k) (.exit 0) (tdX t dv sq a b c tm s)):=by
 intro n
 induction n with
 | zero =>
  intro k hn hk
  rw [List.drop_eq_nil_of_le (by omega)]
  exact ⟨fun h=>(by cases h),fun _=>tdl_e t dv sq a b c tm s k (by omega) trivial⟩
 | succ n ih =>
  intro k hn hk
  have hlt:k<t.cells.length:=by omega
  have hx:t.cells[k]? = some t.cells[k]:=List.getElem?_eq_getElem hlt
  rw [List.drop_eq_getElem_cons hlt,List.any_cons]
  obtain ⟨n1,n2⟩:=ih (k+1) (by omega) (by omega)
  by_cases hle:t.cells[k].tm≥tm
  · rw [decide_eq_true hle,Bool.true_or]
    exact ⟨fun _=>tdl_t t dv sq a b c tm s k _ hx hle (by omega) trivial,fun h=>(by cases h)⟩
  · rw [decide_eq_false hle,Bool.false_or]
    exact ⟨fun h=>tdl_n t dv sq a b c tm s k _ hl hx hle (by omega) _ _ (n1 h),fun h=>tdl_n t dv sq a b c tm s k _ hl hx hle (by omega) _ _ (n2 h)⟩
theorem tel_loop (t:TE) (r:List CE) (dv sq a b c tm:Int) (s:ByteArray) (at_:Nat) (hat:at_≤1000) (hs:s.size≤64) (hr:at_+s.size≤r.length) (hy:∀ k,k<s.size→∃ i',r[at_+k]? = some (tyC dv sq tm k i' s)):∀ n k,s.size - k=n→k≤s.size→RunL P G none 0 (loopAt P 6 1) (teS t r dv sq a b c tm s at_ k) (.exit 2) (teX t r dv sq a b c s at_):=by
 intro n
 induction n with
 | zero=>intro k hn hk; exact tel_e t r dv sq a b c tm s at_ k (by omega) trivial
 | succ n ih =>
  intro k hn hk
  obtain ⟨i',e⟩:=hy k (by omega)
  have nx:=ih (k+1) (by omega) (by omega)
  refine tel_n t r dv sq a b c tm s at_ k i'.1 i'.2.1 i'.2.2 _ rfl hat hs (by omega) (by omega) e _ _ ⟨fun _=>⟨fun _=>nx,fun h=>?_⟩,fun h=>?_⟩
  · simp at h
  · simp at h
theorem str0_c (l:List CE) (hl:l.length≤1000000) (hs:sumS l≤140737488355328):CallC P G 19 [.agg [ces l,nilS]] [] (.ret (str (catV ByteArray.empty l))) [] :=
 (str_c ⟨l,[]⟩ hl hs).args' ⟨.aggs ⟨Sub.refl _,Sub.nil 11,trivial⟩,trivial⟩
theorem catV_len (l:List CE):(catV ByteArray.empty l).size≤sumS l:=by
 have:=bsV_len l l.length
 unfold bsV at this
 rw [List.take_length] at this
 simpa using this
theorem sumS_append:∀ (a b:List CE),sumS (a++b)=sumS a+sumS b
 | [],b=>by simp [sumS]
 | c::a,b=>by rw [List.cons_append,sumS_cons,sumS_cons,sumS_append a b]; omega
theorem ttyp_h (t:TE) (d:Int × Int) (tm:Int) (i:Int × Int × Int) (s:ByteArray) (h:OkA t) (hd:InR d.1∧InR d.2) (_:InR tm) (hi:InR i.1∧InR i.2.1∧InR i.2.2) (_:s.size≤9223372036854775807):CallC P G 6 [txt t,dta d.1 d.2,int tm,ida i.1 i.2.1 i.2.2,str s] [] (.ret (bool true)) []:=by
 have hf:=few_c t
 by_cases hF:t.cells.length≤40∧t.marks.length≤12
 · rw [decide_eq_true hF] at hf
   obtain ⟨l1,l2⟩:=hF
   by_cases hs:(s.size:Int) > 64
   · exact td_00 t _ _ _ _ _ tm s hs hf trivial
   · have hL:LenT t:=⟨by omega,by omega⟩
     obtain ⟨n1,n2⟩:=tdl_loop t d.1 d.2 i.1 i.2.1 i.2.2 tm s l1 t.cells.length 0 rfl (by omega)
     rw [List.drop_zero] at n1 n2
     cases ha:t.cells.any fun x=>decide (x.tm≥tm) with
     | true=>exact td_1 t _ _ _ _ _ tm s hs hf (n1 ha) trivial
     | false =>
      have hT:=type_c t d.1 d.2 tm i.1 i.2.1 i.2.2 s hL h.1 hd.1 hd.2 hi.1 hi.2.1 hi.2.2
      by_cases he:(typR t d.1 d.2 tm (i.1,i.2.1,i.2.2) s).2=0
      · obtain ⟨hV,⟨s1,s2⟩,ht,e1⟩:=typ_y he
        have hx:TyOk t ⟨0,tm,0,d.1,d.2,i.1,i.2.1,i.2.2,s,mZ⟩:=⟨⟨s1,s2⟩,ht⟩
        obtain ⟨hVx,_⟩:=val_ty hV hx
        have ex:edR t ⟨0,tm,0,d.1,d.2,i.1,i.2.1,i.2.2,s,mZ⟩=typR t d.1 d.2 tm (i.1,i.2.1,i.2.2) s:=rfl
        have hlt:∀ x∈t.cells,x.tm<tm:=fun x hx'=>by
         have:=List.any_eq_false.1 ha x hx'
         simp only [ge_iff_le,decide_eq_true_eq,Int.not_le] at this
         exact this
        obtain ⟨n,hn⟩:∃ n,s.size=n+1:=⟨s.size - 1,by omega⟩
        have hpl:=ty_place (dv:=d.1) (sq:=d.2) (tm:=tm) (s:=s) (n:=n) (k:=0) (i:=(i.1,i.2.1,i.2.2)) hV.cells (by omega) (fun x hx' _=>hlt x hx') (by rw [← hn]; exact ht)
        rw [← hn] at hpl
        obtain ⟨p,q,e2,e3,e4⟩:=hpl
        have hr:(tyN d.1 d.2 tm s s.size 0 (i.1,i.2.1,i.2.2) t.cells).1=p++(tyL d.1 d.2 tm s s.size 0 (i.1,i.2.1,i.2.2)++q):=e3
        have hix:ixP t.cells (i.1,i.2.1,i.2.2)=(p.length:Int) - 1:=by
         rcases e4 with ⟨hz,hp⟩ | ⟨m,hm,hp⟩
         · have hnone:fX (pid i.1 i.2.1 i.2.2) t.cells=none:=by
            cases hq:fX (pid i.1 i.2.1 i.2.2) t.cells with
            | none=>rfl
            | some m =>
             obtain ⟨x,hx1,hx2⟩:=Sq.fX_some hq
             exact absurd (hx2.trans hz) ((Sq.forms_iff.1 (Sq.chk_iff.1 hV.cells).1).1.id0 (List.mem_of_getElem? hx1))
           unfold ixP
           show ixV (fX (pid i.1 i.2.1 i.2.2) t.cells)=_
           rw [hnone,hp]
           rfl
         · unfold ixP
           show ixV (fX (pid i.1 i.2.1 i.2.2) t.cells)=_
           have hm:fX (pid i.1 i.2.1 i.2.2) t.cells=some m:=hm
           rw [hm,hp]
           show (m:Int)=_
           omega
        have hidx:=rindex_c t.cells i.1 i.2.1 i.2.2 (by omega)
        rw [hix] at hidx
        have htl:(tyL d.1 d.2 tm s s.size 0 (i.1,i.2.1,i.2.2)).length=s.size:=tyL_len
        have hpl:p.length+q.length=t.cells.length:=by rw [e2]; simp
        obtain ⟨r,hrd⟩:∃ r,r=p++(tyL d.1 d.2 tm s s.size 0 (i.1,i.2.1,i.2.2)++q):=⟨_,rfl⟩
        have hrl:r.length=t.cells.length+s.size:=by rw [hrd]; simp [htl]; omega
        have hT2:CallC P G 28 [txt t,dta d.1 d.2,int tm,ida i.1 i.2.1 i.2.2,str s] [] (.ret (.tup [.agg [ces r,mks t.marks],int 0])) []:=by
         rw [e1,hr,← hrd] at hT
         exact hT
        have t1:r.take p.length=t.cells.take p.length:=by rw [hrd,e2]; simp
        have t2:r.drop (p.length+s.size)=t.cells.drop p.length:=by
         rw [hrd,e2,← List.append_assoc,List.drop_left' (by simp [htl]),List.drop_left' rfl]
        have hc1:=scells_c (r.take p.length) (t.cells.take p.length) (by simp; omega) (by simp; omega)
        rw [decide_eq_true t1] at hc1
        have hc2:=scells_c (r.drop (p.length+s.size)) (t.cells.drop p.length) (by simp; omega) (by simp; omega)
        rw [decide_eq_true t2] at hc2
        have hVr:∀ x∈r,x.vl.size=1:=fun x hx'=>by
         have hq:=hVx.one x
         have hrr:all (t.cells++TL ⟨0,tm,0,d.1,d.2,i.1,i.2.1,i.2.2,s,mZ⟩)=r:=by
          rw [hrd,← hr,(ty_is hV.cells ht).1]; rfl
         rw [hrr] at hq
         exact hq hx'
        have hsr:sumS r=r.length:=sumS_one hVr
        have hst:sumS t.cells=t.cells.length:=sumS_one hV.one
        have hs12:sumS (t.cells.take p.length)+sumS (t.cells.drop p.length)=t.cells.length:=by rw [← sumS_append,List.take_append_drop,hst]
        have g1:=str_c ⟨r,t.marks⟩ (by show r.length≤_; omega) (by show sumS r≤_; omega)
        have g2:=str0_c (t.cells.take p.length) (by simp; omega) (by omega)
        have g3:=str0_c (t.cells.drop p.length) (by simp; omega) (by omega)
        have z2:=catV_len (t.cells.take p.length)
        have z3:=catV_len (t.cells.drop p.length)
        have htk:t.cells.take p.length=p:=by rw [e2]; simp
        have hdk:t.cells.drop p.length=q:=by rw [e2]; simp
        have hstr:strV ⟨r,t.marks⟩=catV ByteArray.empty (t.cells.take p.length)++s++catV ByteArray.empty (t.cells.drop p.length):=by
         unfold strV
         show catV ByteArray.empty r=_
         rw [hrd,htk,hdk,catV_append,catV_append,catV_tyL (by omega),catV_eq]
         rw [Nat.zero_add,ByteArray.extract_zero_size]
        refine td_3 t r d.1 d.2 i.1 i.2.1 i.2.2 tm s p.length _ _ _ (by omega) l1 (by omega) (by omega) hs hf (n2 ha) hT2 hidx hc1 hc2
         (tel_loop t r _ _ _ _ _ tm s p.length (by omega) (by omega) (by omega) (fun k hk=>?_) s.size 0 rfl (by omega)) g1 g2 g3 true ⟨by simp [Sq.encs_length]; omega,by simp [Sq.encs_length]; omega,by simp [Sq.encs_length]; omega,?_,?_⟩
        · obtain ⟨i',e⟩:=tyL_get (dv:=d.1) (sq:=d.2) (tm:=tm) (s:=s) (n:=s.size) (k:=0) (i:=(i.1,i.2.1,i.2.2)) hk
          refine ⟨i',?_⟩
          rw [hrd,List.getElem?_append_right (by omega),Nat.add_sub_cancel_left,List.getElem?_append_left (by omega),e,Nat.zero_add]
        · rw [ByteArray.size_append]; omega
        · rw [hstr]; simp
      · have hz:=typ_z he
        have hT2:CallC P G 28 [txt t,dta d.1 d.2,int tm,ida i.1 i.2.1 i.2.2,str s] [] (.ret (.tup [.agg [ces [],mks []],int (typR t d.1 d.2 tm (i.1,i.2.1,i.2.2) s).2])) []:=by rw [hz] at hT; exact hT
        exact td_2 t _ _ _ _ _ tm s _ he hs hf (n2 ha) hT2 trivial
 · rw [decide_eq_false hF] at hf
   exact td_0 t _ _ _ _ _ tm s hf trivial
end Go.Tx
