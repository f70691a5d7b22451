import Derived.Test.YteaclamkacmhmaaDoorG22
import Derived.OpenShut
import Derived.LaidMore
import Derived.Test.YteaclamkacmhmaaDoorRows
set_option maxRecDepth 100000
set_option linter.unusedSimpArgs false
set_option linter.unusedVariables false

namespace Go.Tx
open Go Go.Am Go.Proofs Go.Seat
open Go.Sq (CE cel ces ida idv pid fX fiO OkRs OkR chkE)
theorem cz3:Tryd.prog.cellsOf 3=1:=by kernel_rfl
theorem cz4:Tryd.prog.cellsOf 4=1:=by kernel_rfl
theorem cz5:Tryd.prog.cellsOf 5=1:=by kernel_rfl
theorem cz9:Tryd.prog.cellsOf 9=1:=by kernel_rfl
theorem czCs:Tryd.prog.cellsOf 22=1:=by kernel_rfl
theorem czMs:Tryd.prog.cellsOf 23=1:=by kernel_rfl
theorem czID:Tryd.prog.cellsOf 45=3:=by kernel_rfl
theorem czD:Tryd.prog.cellsOf 43=2:=by kernel_rfl
theorem czC:Tryd.prog.cellsOf 58=9:=by kernel_rfl
theorem czM:Tryd.prog.cellsOf 47=11:=by kernel_rfl
theorem czT:Tryd.prog.cellsOf 25=2:=by kernel_rfl
theorem czE:Tryd.prog.cellsOf 49=20:=by kernel_rfl
noncomputable def cInt:Cod Tryd.prog 3 Int:=Cod.int Tryd.underlying3 cz3
noncomputable def cStr:Cod Tryd.prog 9 ByteArray:=Cod.str Tryd.underlying9 cz9
noncomputable def cBool:Cod Tryd.prog 4 Bool:=Cod.bool Tryd.underlying4 cz4
noncomputable def cDot:Cod Tryd.prog 43 (Int × Int):=Cod.struct Tryd.underlying43 (by kernel_rfl) (FCod.cons cInt rfl (FCod.cons cInt (by kernel_rfl) FCod.nil)) (fun a=>(a.1,a.2.1)) (fun a=>[Am.int a.1,Am.int a.2]) (fun _=>rfl) (fun _=>czD.symm)
noncomputable def cID:Cod Tryd.prog 45 (Int × Int × Int):=Cod.struct Tryd.underlying45 (by kernel_rfl) (FCod.cons cInt rfl (FCod.cons cInt (by kernel_rfl) (FCod.cons cInt (by kernel_rfl) FCod.nil))) (fun a=>(a.1,a.2.1,a.2.2.1)) (fun a=>[Am.int a.1,Am.int a.2.1,Am.int a.2.2]) (fun _=>rfl) (fun _=>czID.symm)
abbrev AC:=(Int × Int × Int) × (Int × Int × Int) × Int × ByteArray × Bool × Unit
noncomputable def cCE:Cod Tryd.prog 58 CE:=Cod.struct Tryd.underlying58 (by kernel_rfl) (FCod.cons cID rfl (FCod.cons cID (by kernel_rfl) (FCod.cons cInt (by kernel_rfl) (FCod.cons cStr (by kernel_rfl) (FCod.cons cBool (by kernel_rfl) FCod.nil)))))
 (fun a:AC=>⟨a.1.1,a.1.2.1,a.1.2.2,a.2.1.1,a.2.1.2.1,a.2.1.2.2,a.2.2.1,a.2.2.2.1,a.2.2.2.2.1⟩) Sq.enc (fun a:AC=>rfl) (fun _=>czC.symm)
noncomputable def cCells:Cod Tryd.prog 22 (List CE):=Cod.slice Tryd.underlying22 czCs (by rw [czC]; decide) cCE
theorem cCells_enc (v:List CE):cCells.enc v=[ces v]:=by
 show [AV.sl (Tryd.prog.cellsOf 58) false (v.map Sq.enc)]=[AV.sl 9 false (v.map Sq.enc)]
 rw [czC]
abbrev AMk:=(Int × Int) × Int × (Int × Int × Int) × (Int × Int × Int) × Int × Bool × Unit
noncomputable def cMK:Cod Tryd.prog 47 MK:=Cod.struct Tryd.underlying47 (by kernel_rfl) (FCod.cons cDot rfl (FCod.cons cInt (by kernel_rfl) (FCod.cons cID (by kernel_rfl) (FCod.cons cID (by kernel_rfl) (FCod.cons cInt (by kernel_rfl) (FCod.cons cBool (by kernel_rfl) FCod.nil))))))
 (fun a:AMk=>⟨a.1.1,a.1.2,a.2.1,a.2.2.1.1,a.2.2.1.2.1,a.2.2.1.2.2,a.2.2.2.1.1,a.2.2.2.1.2.1,a.2.2.2.1.2.2,a.2.2.2.2.1,a.2.2.2.2.2.1⟩) enc (fun a:AMk=>rfl) (fun _=>czM.symm)
noncomputable def cMarks:Cod Tryd.prog 23 (List MK):=Cod.slice Tryd.underlying23 czMs (by rw [czM]; decide) cMK
theorem cMarks_enc (v:List MK):cMarks.enc v=[mks v]:=by
 show [AV.sl (Tryd.prog.cellsOf 47) false (v.map enc)]=[AV.sl 11 false (v.map enc)]
 rw [czM]
abbrev AT:=List CE × List MK × Unit
noncomputable def cTE:Cod Tryd.prog 25 TE:=Cod.struct Tryd.underlying25 (by kernel_rfl) (FCod.cons cCells rfl (FCod.cons cMarks (by kernel_rfl) FCod.nil)) (fun a:AT=>⟨a.1,a.2.1⟩) (fun t=>[ces t.cells,mks t.marks]) (fun a:AT=>by
 show [ces a.1,mks a.2.1]=cCells.enc a.1++(cMarks.enc a.2.1++[])
 rw [cCells_enc,cMarks_enc]; rfl) (fun _=>czT.symm)
abbrev AE:=Int × Int × Int × (Int × Int) × (Int × Int × Int) × ByteArray × MK × Unit
noncomputable def cED:Cod Tryd.prog 49 ED:=Cod.struct Tryd.underlying49 (by kernel_rfl) (FCod.cons cInt rfl (FCod.cons cInt (by kernel_rfl) (FCod.cons cInt (by kernel_rfl) (FCod.cons cDot (by kernel_rfl) (FCod.cons cID (by kernel_rfl) (FCod.cons cStr (by kernel_rfl) (FCod.cons cMK (by kernel_rfl) FCod.nil)))))))
 (fun a:AE=>⟨a.1,a.2.1,a.2.2.1,a.2.2.2.1.1,a.2.2.2.1.2,a.2.2.2.2.1.1,a.2.2.2.2.1.2.1,a.2.2.2.2.1.2.2,a.2.2.2.2.2.1,a.2.2.2.2.2.2.1⟩) (fun e=>[Am.int e.kd,Am.int e.tm,Am.int e.n,Am.int e.dv,Am.int e.sq,Am.int e.a,Am.int e.b,Am.int e.c,Am.str e.s]++enc e.m) (fun a:AE=>rfl) (fun _=>czE.symm)
theorem cDot_ok {i:Int × Int} (h:cDot.good i):InR i.1∧InR i.2:=by
 obtain ⟨⟨_,_,_⟩,rfl,f1,f2,_⟩:=h
 exact ⟨f1,f2⟩
theorem cID_ok {i:Int × Int × Int} (h:cID.good i):InR i.1∧InR i.2.1∧InR i.2.2:=by
 obtain ⟨⟨_,_,_,_⟩,rfl,f1,f2,f3,_⟩:=h
 exact ⟨f1,f2,f3⟩
def SzC (l:List CE):Prop:=∀ x∈l,x.vl.size≤9223372036854775807
theorem cCE_ok {c:CE} (h:cCE.good c):OkR c∧c.vl.size≤9223372036854775807∧InR c.tm:=by
 obtain ⟨⟨_,_,_,_,_,_⟩,rfl,f1,f2,f3,f4,_⟩:=h
 exact ⟨⟨cID_ok f1,cID_ok f2⟩,f4,f3⟩
theorem cMK_ok {m:MK} (h:cMK.good m):OkM m:=by
 obtain ⟨⟨_,_,_,_,_,_,_⟩,rfl,f1,f2,f3,f4,f5,_⟩:=h
 have h1:=cDot_ok f1
 have h3:=cID_ok f3
 have h4:=cID_ok f4
 exact ⟨h1.1,h1.2,f2,h3.1,h3.2.1,h3.2.2,h4.1,h4.2.1,h4.2.2,f5⟩
theorem cTE_ok {t:TE} (h:cTE.good t):OkT t∧SzC t.cells∧∀ x∈t.cells,InR x.tm:=by
 obtain ⟨⟨_,_,_⟩,rfl,f1,f2,_⟩:=h
 exact ⟨⟨fun x hx=>(cCE_ok (f1.2 x hx)).1,fun x hx=>cMK_ok (f2.2 x hx)⟩,fun x hx=>(cCE_ok (f1.2 x hx)).2.1,fun x hx=>(cCE_ok (f1.2 x hx)).2.2⟩
theorem cED_ok {e:ED} (h:cED.good e):OkE e:=by
 obtain ⟨⟨_,_,_,_,_,_,_,_⟩,rfl,f1,f2,f3,f4,f5,f6,f7,_⟩:=h
 have h4:=cDot_ok f4
 have h5:=cID_ok f5
 exact ⟨f1,f2,f3,h4.1,h4.2,h5.1,h5.2.1,h5.2.2,cMK_ok f7,f6⟩
section
variable {H:Type} {en:TypeId × Value→H} {W:World} {base:Nat} {v:Value} {d:DataW H} {ps:List MemPlace}
theorem reads_agg {α:Type} {t:TypeId} {fs:Array Field} (c:Cod Tryd.prog t α) (hu:Tryd.prog.underlying t=some (.struct fs)) (hv:Value.okWide Tryd.prog W .any base t v) (h:DataW.Trod en Tryd.prog W 0 (fun _=>true) true t v d ps):∃ a,c.good a∧Rep (view0 W) (.agg (c.enc a)) v:=by
 have hagg:∃ cs,v = .agg cs:=by
  unfold Value.okWide at hv
  rw [hu] at hv
  exact ⟨_,hv.choose_spec.1⟩
 obtain ⟨⟨cs⟩,rfl⟩:=hagg
 obtain ⟨n,hn⟩:=h
 have hn':DataW.trod en Tryd.prog W 0 (fun _=>true) true n t cs=some (d,ps):=hn
 obtain ⟨o,g,hl,hp⟩:=c.rd hn'
 exact ⟨o,g,.agg _ _ hl fun j hj=>.pure _ _ (hp j (by rw [hl]; exact hj)).1⟩
theorem reads_text (hv:Value.okWide Tryd.prog W .any base 25 v) (h:DataW.Trod en Tryd.prog W 0 (fun _=>true) true 25 v d ps):∃ t:TE,(OkT t∧SzC t.cells∧∀ x∈t.cells,InR x.tm)∧Rep (view0 W) (txt t) v:=by
 obtain ⟨a,h1,h2⟩:=reads_agg cTE Tryd.underlying25 hv h
 exact ⟨a,cTE_ok h1,h2⟩
theorem reads_edit (hv:Value.okWide Tryd.prog W .any base 49 v) (h:DataW.Trod en Tryd.prog W 0 (fun _=>true) true 49 v d ps):∃ e:ED,OkE e∧Rep (view0 W) (edt e) v:=by
 obtain ⟨a,h1,h2⟩:=reads_agg cED Tryd.underlying49 hv h
 exact ⟨a,cED_ok h1,h2⟩
end
theorem gT:Tryd.prog.globalNamed "math/bits.deBruijn32tab" = some 0:=by kernel_rfl
theorem tT:(Tryd.prog.globals[0]?).map (·.type)=some 124:=by kernel_rfl
theorem globs {W:World} (h:laidMetH Tryd.prog [("math/bits.deBruijn32tab",Go.Proofs.YteaclamkacmhmaaDoor.Rows.laid_math_bits_deBruijn32tab)] W):∀ g cs,G g=some cs→PRep W (fun _=>False) (.imm cs) (.pointer (some ⟨g,0,none⟩)):=by
 have h:laidMet Tryd.prog [("math/bits.deBruijn32tab",Go.Proofs.YteaclamkacmhmaaDoor.Rows.laid_math_bits_deBruijn32tab)] W:=h
 obtain ⟨_,⟨g',t,cs,fuel,p,q,hg,ht,hv,hd,_,_⟩,_⟩:=h
 obtain rfl:=Option.some.inj (gT.symm.trans hg)
 obtain rfl:=Option.some.inj (tT.symm.trans ht)
 obtain ⟨xs,m,_,hx,hl,hxl,hf⟩:=DataW.trod_array Tryd.underlying124 hd
 have hx1:xs.map (·.1)=tabB.map fun n=>DataW.lit (.int .u8 n):=by
  have:=(Prod.mk.inj hx).1
  exact (DataW.agg.inj this).symm
 have hlen:cs.toList.length=32:=hl.trans (by kernel_rfl)
 have cell:∀ j (hj:j<32),W.cell? ⟨0,j,none⟩=some (.int .u8 (tabB.getD j 0)):=fun j hj=>by
  have h1:=hf j hj
  have hjx:j<xs.length:=by omega
  rw [cz5,Nat.mul_one,List.getElem?_eq_getElem hjx] at h1
  obtain ⟨n,e1,e2,_⟩:=DataW.trod_int Tryd.underlying5 h1
  have hj2:j<cs.toList.length:=by omega
  rw [List.take_one,List.head?_drop,List.getElem?_eq_getElem hj2] at e1
  have e1:cs.toList[j] = .int .u8 n:=by simpa using e1
  have e3:(xs.map (·.1))[j]? = some (.lit (.int .u8 n)):=by rw [List.getElem?_map,List.getElem?_eq_getElem hjx,e2]; rfl
  rw [hx1,List.getElem?_map] at e3
  have hjt:j<tabB.length:=hj
  rw [List.getElem?_eq_getElem hjt] at e3
  have e4:tabB[j]=n:=by simpa using e3
  have:=World.var?_cell gT hv j
  rw [this,List.getD_eq_getElem?_getD,List.getElem?_eq_getElem hjt]
  have h5:cs[j]? = some cs.toList[j]:=by rw [← Array.getElem?_toList,List.getElem?_eq_getElem hj2]
  rw [h5,e1,← e4]
  rfl
 intro g cs' hg'
 unfold G at hg'
 split at hg'
 · rename_i e
   subst e
   cases hg'
   exact .imm _ _ (fun j=>.int .u8 (tabB.getD j 0)) rfl (fun _ h=>h) (fun j hj=>by rw [Nat.zero_add]; exact cell j (by simpa [tab,tabB] using hj)) (fun j hj=>by
    have hj:j<32:=by simpa [tab,tabB] using hj
    have:tab.getD j .dead = .lit (.int .u8 (tabB.getD j 0)):=by
     unfold tab
     rw [List.getD_eq_getElem?_getD,List.getElem?_map,List.getD_eq_getElem?_getD,List.getElem?_eq_getElem (show j<tabB.length from hj)]
     rfl
    rw [this]
    exact .lit _)
 · cases hg'
theorem door_met (os:Os) (args:Array Value):laidMetH Tryd.prog [("math/bits.deBruijn32tab",Go.Proofs.YteaclamkacmhmaaDoor.Rows.laid_math_bits_deBruijn32tab)] ((World.doorLaid Tryd.prog 600 os).forCall (fun _ _=>0) ⟨#[],args,[]⟩).memory :=
 laidMetH_of_parts3 (fuel:=8) (laidMet_of_run' 8 (by kernel_rfl) (by kernel_rfl)) (by kernel_rfl) (by kernel_rfl)
end Go.Tx


namespace Go.Tx
open Go Go.Am Go.Proofs Go.Seat
abbrev OkA (t:TE):Prop:=OkT t∧SzC t.cells∧∀ x∈t.cells,InR x.tm
theorem teds_h (t:TE) (e:ED) (h:OkA t) (hE:OkE e):CallC P G 4 [txt t,edt e] [] (.ret (bool true)) []:=eds t e h.1 hE
end Go.Tx
